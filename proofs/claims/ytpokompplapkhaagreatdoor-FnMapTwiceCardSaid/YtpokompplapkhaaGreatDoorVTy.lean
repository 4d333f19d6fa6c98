/- Values of types, in plain Lean: over nameless types with the loop types around, and over named ones. -/
import Derived.Test.YtpokompplapkhaaGreatDoorMI
import Derived.Test.YtpokompplapkhaaGreatDoorMF
namespace Go.Proofs.YtpokompplapkhaaGreatDoor
open Go.RowKit
set_option linter.unusedVariables false
set_option linter.unusedSimpArgs false

/-- The number of an element. -/
def elN (s : List UInt8) : Nat := (s.drop 1).foldl (fun n b => 10 * n + (b.toNat - 48)) 0
/-- A value is of a type: env k is the loop type of the bound name k, with what is behind it around. -/
def V.isOf (n : Int) : V → List Ty → Ty → Bool
  | .u, _, .one => true
  | .el s, _, .name _ => decide ((elN s : Int) < n)
  | .l v, env, .sum a _ => v.isOf n env a
  | .r v, env, .sum _ b => v.isOf n env b
  | .p v w, env, .prod a b => v.isOf n env a && w.isOf n env b
  | .f v, env, .loop a => v.isOf n (.loop a :: env) a
  | .f v, env, .bound k => match env.drop k with
    | .loop a :: rest => v.isOf n (.loop a :: rest) a
    | _ => false
  | _, _, _ => false
/-- A value with each element replaced, by the name at its place. -/
def V.turn (g : List UInt8 → List UInt8 → List UInt8) : V → List Ty → Ty → V
  | .el s, _, .name x => .el (g x s)
  | .l v, env, .sum a _ => .l (v.turn g env a)
  | .r v, env, .sum _ b => .r (v.turn g env b)
  | .p v w, env, .prod a b => .p (v.turn g env a) (w.turn g env b)
  | .f v, env, .loop a => .f (v.turn g (.loop a :: env) a)
  | .f v, env, .bound k => match env.drop k with
    | .loop a :: rest => .f (v.turn g (.loop a :: rest) a)
    | _ => .f v
  | v, _, _ => v
/-- The elements of a value with the names at their places. -/
def V.labs : V → List Ty → Ty → List (List UInt8 × List UInt8)
  | .el s, _, .name x => [(x, s)]
  | .l v, env, .sum a _ => v.labs env a
  | .r v, env, .sum _ b => v.labs env b
  | .p v w, env, .prod a b => v.labs env a ++ w.labs env b
  | .f v, env, .loop a => v.labs (.loop a :: env) a
  | .f v, env, .bound k => match env.drop k with
    | .loop a :: rest => v.labs (.loop a :: rest) a
    | _ => []
  | _, _, _ => []
theorem turn_nodes (g : List UInt8 → List UInt8 → List UInt8) : ∀ (v : V) (env : List Ty) (t : Ty), (v.turn g env t).nodes = v.nodes := by
  intro v
  induction v with
  | u => intro env t; cases t <;> rfl
  | el s => intro env t; cases t <;> rfl
  | l v ih => intro env t; cases t <;> simp only [V.turn, V.nodes, ih]
  | r v ih => intro env t; cases t <;> simp only [V.turn, V.nodes, ih]
  | p v w ih ih2 => intro env t; cases t <;> simp only [V.turn, V.nodes, ih, ih2]
  | f v ih =>
    intro env t
    cases t with
    | loop a => simp only [V.turn, V.nodes, ih]
    | bound k =>
      simp only [V.turn]
      split <;> simp only [V.nodes, ih]
    | _ => rfl
/-- All elements of a value of a type lie at places. -/
theorem labs_elems (n : Int) : ∀ (v : V) (env : List Ty) (t : Ty), v.isOf n env t = true → (v.labs env t).map (·.2) = v.elems := by
  intro v
  induction v with
  | u => intro env t h; cases t <;> first | rfl | cases h
  | el s => intro env t h; cases t <;> first | rfl | cases h
  | l v ih => intro env t h; cases t <;> first | cases h | exact ih _ _ h
  | r v ih => intro env t h; cases t <;> first | cases h | exact ih _ _ h
  | p v w ih ih2 =>
    intro env t h
    cases t <;> first
      | cases h
      | (simp only [V.isOf, Bool.and_eq_true] at h
         simp only [V.labs, V.elems, List.map_append, ih _ _ h.1, ih2 _ _ h.2])
  | f v ih =>
    intro env t h
    cases t with
    | loop a => exact ih _ _ h
    | bound k =>
      simp only [V.isOf] at h
      simp only [V.labs]
      split at h
      · exact ih _ _ h
      · cases h
    | _ => cases h
/-- What is turned is of the type, if the new elements are. -/
theorem turn_isOf {n m : Int} {g : List UInt8 → List UInt8 → List UInt8} (hg : ∀ x s, (elN s : Int) < n → (elN (g x s) : Int) < m) : ∀ (v : V) (env : List Ty) (t : Ty), v.isOf n env t = true → (v.turn g env t).isOf m env t = true := by
  intro v
  induction v with
  | u => intro env t h; cases t <;> first | rfl | cases h
  | el s =>
    intro env t h
    cases t <;> first
      | cases h
      | (simp only [V.isOf, decide_eq_true_eq] at h
         simp only [V.turn, V.isOf, decide_eq_true_eq]
         exact hg _ _ h)
  | l v ih => intro env t h; cases t <;> first | cases h | exact ih _ _ h
  | r v ih => intro env t h; cases t <;> first | cases h | exact ih _ _ h
  | p v w ih ih2 =>
    intro env t h
    cases t <;> first
      | cases h
      | (simp only [V.isOf, Bool.and_eq_true] at h
         simp only [V.turn, V.isOf, Bool.and_eq_true]
         exact ⟨ih _ _ h.1, ih2 _ _ h.2⟩)
  | f v ih =>
    intro env t h
    cases t with
    | loop a => exact ih _ _ h
    | bound k =>
      simp only [V.isOf] at h
      simp only [V.turn]
      split at h
      · rename_i a rest he
        simp only [V.isOf]
        rw [he]
        exact ih _ _ h
      · cases h
    | _ => cases h
theorem isOf_mono {n m : Int} (hn : n ≤ m) : ∀ (v : V) (env : List Ty) (t : Ty), v.isOf n env t = true → v.isOf m env t = true := by
  intro v
  induction v with
  | u => intro env t h; cases t <;> first | rfl | cases h
  | el s =>
    intro env t h
    cases t <;> first
      | cases h
      | (simp only [V.isOf, decide_eq_true_eq] at h ⊢
         omega)
  | l v ih => intro env t h; cases t <;> first | cases h | exact ih _ _ h
  | r v ih => intro env t h; cases t <;> first | cases h | exact ih _ _ h
  | p v w ih ih2 =>
    intro env t h
    cases t <;> first
      | cases h
      | (simp only [V.isOf, Bool.and_eq_true] at h ⊢
         exact ⟨ih _ _ h.1, ih2 _ _ h.2⟩)
  | f v ih =>
    intro env t h
    cases t with
    | loop a => exact ih _ _ h
    | bound k =>
      simp only [V.isOf] at h ⊢
      split at h
      · exact ih _ _ h
      · cases h
    | _ => cases h
/-- Two changes, one behind the other. -/
theorem turn_turn (g g' : List UInt8 → List UInt8 → List UInt8) : ∀ (v : V) (env : List Ty) (t : Ty), (v.turn g env t).turn g' env t = v.turn (fun x s => g' x (g x s)) env t := by
  intro v
  induction v with
  | u => intro env t; cases t <;> rfl
  | el s => intro env t; cases t <;> rfl
  | l v ih => intro env t; cases t <;> first | rfl | simp only [V.turn, ih]
  | r v ih => intro env t; cases t <;> first | rfl | simp only [V.turn, ih]
  | p v w ih ih2 => intro env t; cases t <;> first | rfl | simp only [V.turn, ih, ih2]
  | f v ih =>
    intro env t
    cases t with
    | loop a => simp only [V.turn, ih]
    | bound k =>
      simp only [V.turn]
      split
      · rename_i a rest he
        simp only [V.turn]
        rw [he]
        simp only [ih]
      · rename_i he
        simp only [V.turn]
        try (split
             · rename_i a rest he2
               exact absurd he2 (he a rest)
             · rfl)
    | _ => rfl
theorem turn_labs (g : List UInt8 → List UInt8 → List UInt8) : ∀ (v : V) (env : List Ty) (t : Ty), (v.turn g env t).labs env t = (v.labs env t).map fun p => (p.1, g p.1 p.2) := by
  intro v
  induction v with
  | u => intro env t; cases t <;> rfl
  | el s => intro env t; cases t <;> rfl
  | l v ih => intro env t; cases t <;> first | rfl | simp only [V.turn, V.labs, ih]
  | r v ih => intro env t; cases t <;> first | rfl | simp only [V.turn, V.labs, ih]
  | p v w ih ih2 => intro env t; cases t <;> first | rfl | simp only [V.turn, V.labs, ih, ih2, List.map_append]
  | f v ih =>
    intro env t
    cases t with
    | loop a => simp only [V.turn, V.labs, ih]
    | bound k =>
      simp only [V.turn, V.labs]
      split
      · rename_i a rest he
        simp only [V.labs]
        rw [he]
        simp only [ih]
      · rename_i he
        simp only [V.labs]
        try (split
             · rename_i a rest he2
               exact absurd he2 (he a rest)
             · rfl)
        try rfl
    | _ => rfl
/-- A change that changes nothing. -/
theorem turn_id {g : List UInt8 → List UInt8 → List UInt8} : ∀ (v : V) (env : List Ty) (t : Ty), (∀ p ∈ v.labs env t, g p.1 p.2 = p.2) → v.turn g env t = v := by
  intro v
  induction v with
  | u => intro env t _; cases t <;> rfl
  | el s =>
    intro env t h
    cases t with
    | name x => simp only [V.turn]; rw [h (x, s) (by simp [V.labs])]
    | _ => rfl
  | l v ih => intro env t h; cases t <;> first | rfl | (simp only [V.turn]; rw [ih _ _ h])
  | r v ih => intro env t h; cases t <;> first | rfl | (simp only [V.turn]; rw [ih _ _ h])
  | p v w ih ih2 =>
    intro env t h
    cases t with
    | prod a b =>
      simp only [V.labs, List.mem_append] at h
      simp only [V.turn]
      rw [ih _ _ fun p hp => h p (.inl hp), ih2 _ _ fun p hp => h p (.inr hp)]
    | _ => rfl
  | f v ih =>
    intro env t h
    cases t with
    | loop a => simp only [V.turn]; rw [ih _ _ h]
    | bound k =>
      simp only [V.labs] at h
      simp only [V.turn]
      split
      · rename_i a rest he
        rw [he] at h
        rw [ih _ _ h]
      · rfl
    | _ => rfl

/-! ### named types -/
/-- The rec of a name, the innermost first, with those around it. -/
def lookN (s : List UInt8) : List (List UInt8 × NT) → Option (NT × List (List UInt8 × NT))
  | [] => none
  | e :: r => if e.1 = s then some (e.2, e :: r) else lookN s r
/-- The names around, the loop types around. -/
def envTy : List (List UInt8 × NT) → List Ty
  | [] => []
  | e :: r => (e.2.db (r.map (·.1))) :: envTy r
/-- Each name's type is the rec of that name. -/
def EnvOk : List (List UInt8 × NT) → Prop
  | [] => True
  | e :: r => (∃ a, e.2 = .loop e.1 a) ∧ paramB e.1 = false ∧ EnvOk r
theorem lookN_look {s : List UInt8} : ∀ (env : List (List UInt8 × NT)), (lookN s env = none → look s (env.map (·.1)) = none) ∧ (∀ L r, lookN s env = some (L, r) → ∃ k, look s (env.map (·.1)) = some k ∧ env.drop k = r ∧ ∃ r', r = (s, L) :: r')
  | [] => ⟨fun _ => rfl, fun L r h => by cases h⟩
  | e :: es => by
    obtain ⟨h1, h2⟩ := lookN_look (s := s) es
    refine ⟨fun h => ?_, fun L r h => ?_⟩
    · simp only [lookN] at h
      split at h
      · cases h
      · rename_i he
        simp only [List.map_cons, look]
        rw [if_neg he, h1 h]
        rfl
    · simp only [lookN] at h
      split at h
      · rename_i he
        cases h
        refine ⟨0, by simp [look, he], rfl, es, ?_⟩
        rw [← he]
      · rename_i he
        obtain ⟨k, hk, hd, hr⟩ := h2 L r h
        refine ⟨k + 1, ?_, hd, hr⟩
        simp only [List.map_cons, look]
        rw [if_neg he, hk]
        rfl
theorem envTy_drop : ∀ (env : List (List UInt8 × NT)) (k : Nat), (envTy env).drop k = envTy (env.drop k)
  | [], k => by simp [envTy]
  | e :: es, 0 => rfl
  | e :: es, k + 1 => envTy_drop es k
/-- A value is of a named type. -/
def V.isOfN (n : Int) : V → List (List UInt8 × NT) → NT → Bool
  | .u, _, .one => true
  | .el s, env, .name x => match lookN x env with
    | some _ => false
    | none => paramB x && decide ((elN s : Int) < n)
  | .l v, env, .sum a _ => v.isOfN n env a
  | .r v, env, .sum _ b => v.isOfN n env b
  | .p v w, env, .prod a b => v.isOfN n env a && w.isOfN n env b
  | .f v, env, .loop x a => v.isOfN n ((x, .loop x a) :: env) a
  | .f v, env, .name s => match lookN s env with
    | some (.loop x a, _ :: rest) => v.isOfN n ((x, .loop x a) :: rest) a
    | _ => false
  | _, _, _ => false
theorem lookN_ok {s : List UInt8} {env : List (List UInt8 × NT)} (he : EnvOk env) : ∀ L r, lookN s env = some (L, r) → EnvOk r ∧ paramB s = false := by
  induction env with
  | nil => intro L r h; cases h
  | cons e es ih =>
    intro L r h
    simp only [lookN] at h
    split at h
    · rename_i heq
      cases h
      exact ⟨he, by rw [← heq]; exact he.2.1⟩
    · exact ih he.2.2 L r h
/-- Named and nameless agree, where the free names are parameters. -/
theorem isOfN_db (n : Int) : ∀ (v : V) (env : List (List UInt8 × NT)) (N : NT), EnvOk env → N.ok3 → (∀ s, (N.db (env.map (·.1))).has s → paramB s = true) → (∀ e ∈ env, e.2.ok3) → (∀ (k : Nat) (e : List UInt8 × NT) (r : List (List UInt8 × NT)), env.drop k = e :: r → ∀ s, (e.2.db (r.map (·.1))).has s → paramB s = true) →
    v.isOfN n env N = v.isOf n (envTy env) (N.db (env.map (·.1))) := by
  intro v
  induction v with
  | u =>
    intro env N he hN hp ho hq
    cases N with
    | name s =>
      simp only [NT.db]
      split
      · rfl
      · split <;> rfl
    | _ => rfl
  | el e =>
    intro env N he hN hp ho hq
    cases N with
    | name s =>
      simp only [V.isOfN]
      cases hl : lookN s env with
      | none =>
        have h1 := (lookN_look env).1 hl
        have hs : paramB s = true := hp s (by
          simp only [NT.db]
          split
          · rfl
          · rw [h1]; rfl)
        simp only [NT.db]
        rw [if_pos hs, hs, Bool.true_and]
        rfl
      | some q =>
        obtain ⟨L, r⟩ := q
        obtain ⟨k, hk, _⟩ := (lookN_look env).2 L r hl
        have hs := (lookN_ok he L r hl).2
        simp only [NT.db]
        rw [if_neg (by rw [hs]; simp), hk]
        rfl
    | _ => rfl
  | l v ih =>
    intro env N he hN hp ho hq
    cases N with
    | sum a b => exact ih env a he hN.1 (fun s h => hp s (.inl h)) ho hq
    | name s =>
      simp only [NT.db]
      split
      · rfl
      · split <;> rfl
    | _ => rfl
  | r v ih =>
    intro env N he hN hp ho hq
    cases N with
    | sum a b => exact ih env b he hN.2 (fun s h => hp s (.inr h)) ho hq
    | name s =>
      simp only [NT.db]
      split
      · rfl
      · split <;> rfl
    | _ => rfl
  | p v w ih ih2 =>
    intro env N he hN hp ho hq
    cases N with
    | prod a b =>
      simp only [V.isOfN, NT.db, V.isOf]
      rw [ih env a he hN.1 (fun s h => hp s (.inl h)) ho hq, ih2 env b he hN.2 (fun s h => hp s (.inr h)) ho hq]
    | name s =>
      simp only [NT.db]
      split
      · rfl
      · split <;> rfl
    | _ => rfl
  | f v ih =>
    intro env N he hN hp ho hq
    have loopcase : ∀ (rest : List (List UInt8 × NT)) (x : List UInt8) (a : NT), EnvOk rest → (NT.loop x a).ok3 → (∀ s, ((NT.loop x a).db (rest.map (·.1))).has s → paramB s = true) → (∀ e ∈ rest, e.2.ok3) → (∀ (k : Nat) (e : List UInt8 × NT) (r : List (List UInt8 × NT)), rest.drop k = e :: r → ∀ s, (e.2.db (r.map (·.1))).has s → paramB s = true) →
        v.isOfN n ((x, .loop x a) :: rest) a = v.isOf n (.loop (a.db (x :: rest.map (·.1))) :: envTy rest) (a.db (x :: rest.map (·.1))) := fun rest x a h1 h2 h3 h4 h5 => by
      refine ih ((x, .loop x a) :: rest) a ⟨⟨a, rfl⟩, h2.1.2, h1⟩ h2.2 h3 (fun e hm => ?_) (fun k e r hd => ?_)
      · rcases List.mem_cons.1 hm with rfl | hm
        · exact h2
        · exact h4 e hm
      · cases k with
        | zero => cases hd; exact h3
        | succ k => exact h5 k e r hd
    cases N with
    | loop x a => exact loopcase env x a he hN hp ho hq
    | name s =>
      simp only [V.isOfN]
      cases hl : lookN s env with
      | none =>
        have h1 := (lookN_look env).1 hl
        simp only [NT.db]
        split
        · rfl
        · rw [h1]; rfl
      | some q =>
        obtain ⟨L, r⟩ := q
        obtain ⟨k, hk, hd, r', hr⟩ := (lookN_look env).2 L r hl
        subst hr
        have hs := (lookN_ok he L _ hl).2
        have heo := (lookN_ok he L _ hl).1
        obtain ⟨⟨a, ha⟩, hpn, her⟩ := heo
        have ha : L = .loop s a := ha
        subst ha
        have hmem : ∀ e ∈ (s, NT.loop s a) :: r', e ∈ env := fun e hm => by rw [← hd] at hm; exact List.mem_of_mem_drop hm
        simp only [NT.db]
        rw [if_neg (by rw [hs]; simp), hk]
        simp only [V.isOf]
        rw [envTy_drop, hd]
        simp only [envTy, NT.db]
        refine loopcase r' s a her (ho _ (hmem _ (List.mem_cons_self ..))) (hq k _ r' hd) (fun e hm => ho e (hmem e (List.mem_cons_of_mem _ hm))) (fun j e r hj => hq (k + 1 + j) e r ?_)
        rw [Nat.add_assoc, ← List.drop_drop, hd, Nat.add_comm 1 j]
        exact hj
    | _ => rfl

/-- The loop types around are recs, each with those behind it around. -/
def EnvSc : List Ty → Prop
  | [] => True
  | X :: r => (∃ a, X = .loop a ∧ a.scoped (r.length + 1)) ∧ EnvSc r
theorem EnvSc.drop {env : List Ty} (h : EnvSc env) : ∀ k, k < env.length → ∃ a rest, env.drop k = .loop a :: rest ∧ a.scoped (rest.length + 1) ∧ EnvSc rest := by
  induction env with
  | nil => intro k hk; cases hk
  | cons X r ih =>
    intro k hk
    cases k with
    | zero =>
      obtain ⟨⟨a, rfl, ha⟩, hr⟩ := h
      exact ⟨a, r, rfl, ha, hr⟩
    | succ k => exact ih h.2 k (by simpa using hk)

end Go.Proofs.YtpokompplapkhaaGreatDoor
