/- Values of types with any meaning of the free names: putting in, opening; contexts are values of the derivative. -/
import Derived.Test.YtpokompplapkhaaGreatDoorHolP
import Derived.Test.YtpokompplapkhaaGreatDoorNam
namespace Go.Proofs.YtpokompplapkhaaGreatDoor
open Go.RowKit
set_option linter.unusedVariables false
set_option linter.unusedSimpArgs false

def V.ofR (ρ : List UInt8 → V → Bool) : V → List Ty → Ty → Bool
  | v, _, .name s => ρ s v
  | .u, _, .one => true
  | .l v, env, .sum a _ => v.ofR ρ env a
  | .r v, env, .sum _ b => v.ofR ρ env b
  | .p v w, env, .prod a b => v.ofR ρ env a && w.ofR ρ env b
  | .f v, env, .loop a => v.ofR ρ (.loop a :: env) a
  | .f v, env, .bound k => match env.drop k with
    | .loop a :: rest => v.ofR ρ (.loop a :: rest) a
    | _ => false
  | _, _, _ => false
/-- Elements below n, at every name. -/
def rhoN (n : Int) : List UInt8 → V → Bool := fun _ v => match v with
  | .el s => decide ((elN s : Int) < n)
  | _ => false
theorem isOf_ofR (n : Int) : ∀ (v : V) (env : List Ty) (t : Ty), v.isOf n env t = v.ofR (rhoN n) env t := by
  intro v
  induction v with
  | u => intro env t; cases t <;> rfl
  | el s => intro env t; cases t <;> rfl
  | l v ih => intro env t; cases t <;> first | rfl | exact ih _ _
  | r v ih => intro env t; cases t <;> first | rfl | exact ih _ _
  | p v w ih ih2 => intro env t; cases t <;> first | rfl | simp only [V.isOf, V.ofR, ih, ih2]
  | f v ih =>
    intro env t
    cases t with
    | loop a => exact ih _ _
    | bound k =>
      simp only [V.isOf, V.ofR]
      cases hd : env.drop k with
      | nil => rfl
      | cons X r => cases X <;> first | exact ih _ _ | rfl
    | _ => rfl
/-- What lies behind what a type names makes no difference. -/
theorem ofR_app (ρ : List UInt8 → V → Bool) : ∀ (v : V) (env e2 : List Ty) (t : Ty), t.scoped env.length → EnvSc env → v.ofR ρ (env ++ e2) t = v.ofR ρ env t := by
  intro v
  induction v with
  | u => intro env e2 t ht he; cases t <;> rfl
  | el s => intro env e2 t ht he; cases t <;> rfl
  | l v ih => intro env e2 t ht he; cases t <;> first | rfl | exact ih _ _ _ ht.1 he
  | r v ih => intro env e2 t ht he; cases t <;> first | rfl | exact ih _ _ _ ht.2 he
  | p v w ih ih2 =>
    intro env e2 t ht he
    cases t <;> first
      | rfl
      | (simp only [V.ofR]
         rw [ih _ _ _ ht.1 he, ih2 _ _ _ ht.2 he])
  | f v ih =>
    intro env e2 t ht he
    cases t with
    | loop a => exact ih (.loop a :: env) e2 a ht ⟨⟨a, rfl, ht⟩, he⟩
    | bound k =>
      have hk : k < env.length := ht
      obtain ⟨a, rest, hd, ha, hr⟩ := he.drop k hk
      simp only [V.ofR]
      rw [List.drop_append_of_le_length (by omega), hd]
      exact ih (.loop a :: rest) e2 a ha ⟨⟨a, rfl, ha⟩, hr⟩
    | _ => rfl
/-- The names' meaning with one more. -/
def rhoP (ρ : List UInt8 → V → Bool) (l : List UInt8) (T : Ty) : List UInt8 → V → Bool := fun s v => if s = l then v.ofR ρ [] T else ρ s v
theorem ofR_put (ρ : List UInt8 → V → Bool) (l : List UInt8) (T : Ty) (hT : T.scoped 0) : ∀ (v : V) (env : List Ty) (t : Ty), t.scoped env.length → EnvSc env → v.ofR ρ (env.map (·.put l T)) (t.put l T) = v.ofR (rhoP ρ l T) env t := by
  have hname : ∀ (v : V) (env : List Ty) (s : List UInt8), v.ofR ρ (env.map (·.put l T)) ((Ty.name s).put l T) = v.ofR (rhoP ρ l T) env (.name s) := fun v env s => by
    simp only [Ty.put, rhoP, V.ofR]
    by_cases h : s = l
    · rw [if_pos h, if_pos h]
      exact ofR_app ρ v [] _ T hT trivial
    · rw [if_neg h, if_neg h]
      simp only [V.ofR]
  intro v
  induction v with
  | u => intro env t ht he; cases t <;> first | exact hname _ _ _ | rfl
  | el s => intro env t ht he; cases t <;> first | exact hname _ _ _ | rfl
  | l v ih => intro env t ht he; cases t <;> first | exact hname _ _ _ | exact ih _ _ ht.1 he | rfl
  | r v ih => intro env t ht he; cases t <;> first | exact hname _ _ _ | exact ih _ _ ht.2 he | rfl
  | p v w ih ih2 =>
    intro env t ht he
    cases t <;> first
      | exact hname _ _ _
      | rfl
      | (simp only [Ty.put, V.ofR]
         rw [ih _ _ ht.1 he, ih2 _ _ ht.2 he])
  | f v ih =>
    intro env t ht he
    cases t with
    | name s => exact hname _ _ _
    | loop a => exact ih (.loop a :: env) a ht ⟨⟨a, rfl, ht⟩, he⟩
    | bound k =>
      have hk : k < env.length := ht
      obtain ⟨a, rest, hd, ha, hr⟩ := he.drop k hk
      simp only [Ty.put, V.ofR]
      rw [← List.map_drop, hd]
      exact ih (.loop a :: rest) a ha ⟨⟨a, rfl, ha⟩, hr⟩
    | _ => rfl
def openEnv (l : List UInt8) : List Ty → List Ty
  | [] => []
  | X :: r => X.opened (.name l) r.length :: openEnv l r
theorem openEnv_drop (l : List UInt8) : ∀ (env : List Ty) (k : Nat), (openEnv l env).drop k = openEnv l (env.drop k)
  | [], k => by simp [openEnv]
  | X :: r, 0 => rfl
  | X :: r, k + 1 => openEnv_drop l r k
theorem ofR_opened (ρ : List UInt8 → V → Bool) (l : List UInt8) (a0 : Ty) (ha0 : a0.scoped 1) : ∀ (v : V) (e1 : List Ty) (t : Ty), t.scoped (e1.length + 1) → EnvSc (e1 ++ [.loop a0]) → ¬ t.has l → (∀ X ∈ e1, ¬ X.has l) →
    v.ofR (rhoP ρ l (.loop a0)) (openEnv l e1) (t.opened (.name l) e1.length) = v.ofR ρ (e1 ++ [.loop a0]) t := by
  have hname : ∀ (v : V) (e1 : List Ty) (s : List UInt8), ¬ (Ty.name s).has l → v.ofR (rhoP ρ l (.loop a0)) (openEnv l e1) ((Ty.name s).opened (.name l) e1.length) = v.ofR ρ (e1 ++ [.loop a0]) (.name s) := fun v e1 s h => by
    have h : ¬ s = l := h
    simp only [Ty.opened, V.ofR, rhoP]
    rw [if_neg h]
  have hend : ∀ (v : V) (e1 : List Ty), v.ofR (rhoP ρ l (.loop a0)) (openEnv l e1) ((Ty.bound e1.length).opened (.name l) e1.length) = v.ofR ρ (e1 ++ [.loop a0]) (.bound e1.length) := fun v e1 => by
    simp only [Ty.opened, V.ofR, rhoP, if_true]
    cases v with
    | f v =>
      simp only [V.ofR]
      rw [List.drop_append_of_le_length (Nat.le_refl _), List.drop_length]
      rfl
    | _ => rfl
  intro v
  induction v with
  | u =>
    intro e1 t ht he hl hX
    cases t with
    | name s => exact hname _ _ _ hl
    | bound k =>
      by_cases hk : k = e1.length
      · subst hk; exact hend _ _
      · simp only [Ty.opened]; rw [if_neg hk]; rfl
    | _ => rfl
  | el s =>
    intro e1 t ht he hl hX
    cases t with
    | name s => exact hname _ _ _ hl
    | bound k =>
      by_cases hk : k = e1.length
      · subst hk; exact hend _ _
      · simp only [Ty.opened]; rw [if_neg hk]; rfl
    | _ => rfl
  | l v ih =>
    intro e1 t ht he hl hX
    cases t with
    | name s => exact hname _ _ _ hl
    | bound k =>
      by_cases hk : k = e1.length
      · subst hk; exact hend _ _
      · simp only [Ty.opened]; rw [if_neg hk]; rfl
    | sum a b => exact ih e1 a ht.1 he (fun h => hl (.inl h)) hX
    | _ => rfl
  | r v ih =>
    intro e1 t ht he hl hX
    cases t with
    | name s => exact hname _ _ _ hl
    | bound k =>
      by_cases hk : k = e1.length
      · subst hk; exact hend _ _
      · simp only [Ty.opened]; rw [if_neg hk]; rfl
    | sum a b => exact ih e1 b ht.2 he (fun h => hl (.inr h)) hX
    | _ => rfl
  | p v w ih ih2 =>
    intro e1 t ht he hl hX
    cases t with
    | name s => exact hname _ _ _ hl
    | bound k =>
      by_cases hk : k = e1.length
      · subst hk; exact hend _ _
      · simp only [Ty.opened]; rw [if_neg hk]; rfl
    | prod a b =>
      simp only [Ty.opened, V.ofR]
      rw [ih e1 a ht.1 he (fun h => hl (.inl h)) hX, ih2 e1 b ht.2 he (fun h => hl (.inr h)) hX]
    | _ => rfl
  | f v ih =>
    intro e1 t ht he hl hX
    cases t with
    | name s => exact hname _ _ _ hl
    | loop a =>
      refine ih (.loop a :: e1) a ht ⟨⟨a, rfl, show a.scoped ((e1 ++ [Ty.loop a0]).length + 1) by rw [List.length_append]; exact ht⟩, he⟩ hl fun X hm => ?_
      rcases List.mem_cons.1 hm with rfl | hm
      · exact hl
      · exact hX X hm
    | bound k =>
      by_cases hk : k = e1.length
      · subst hk; exact hend _ _
      · have hk2 : k < e1.length + 1 := ht
        have hk3 : k < e1.length := by omega
        simp only [Ty.opened]
        rw [if_neg hk]
        obtain ⟨a, rest, hd, ha, hr⟩ := he.drop k (by simp; omega)
        rw [List.drop_append_of_le_length (by omega)] at hd
        cases hd2 : e1.drop k with
        | nil => exfalso; have := congrArg List.length hd2; simp at this; omega
        | cons X r =>
          rw [hd2] at hd
          simp only [List.cons_append, List.cons.injEq] at hd
          obtain ⟨rfl, rfl⟩ := hd
          simp only [V.ofR]
          rw [openEnv_drop, hd2, List.drop_append_of_le_length (by omega), hd2]
          have hm : ∀ X ∈ Ty.loop a :: r, ¬ X.has l := fun X hm => hX X (by rw [← hd2] at hm; exact List.mem_of_mem_drop hm)
          exact ih (.loop a :: r) a (by rw [List.length_append] at ha; exact ha) ⟨⟨a, rfl, ha⟩, hr⟩ (show ¬ a.has l from hm (.loop a) (List.mem_cons_self ..)) hm
    | _ => rfl
theorem plug_opened (l : List UInt8) : ∀ (c : V) (t : Ty) (k : Nat) (e : V), plugV c (t.opened (.name l) k) e = plugV c t e := by
  have key : ∀ (m : Nat) (c : V), c.nodes ≤ m → ∀ (t : Ty) (k : Nat) (e : V), plugV c (t.opened (.name l) k) e = plugV c t e := by
    intro m
    induction m with
    | zero => intro c hc; cases c <;> simp [V.nodes] at hc
    | succ m ih =>
      intro c hc t k e
      cases t with
      | sum a b =>
        simp only [Ty.opened]
        cases c with
        | l c => simp only [V.nodes] at hc; simp only [plugV]; rw [ih c (by omega)]
        | r c => simp only [V.nodes] at hc; simp only [plugV]; rw [ih c (by omega)]
        | _ => simp only [plugV]
      | prod a b =>
        simp only [Ty.opened]
        cases c with
        | l c => cases c <;> simp only [V.nodes] at hc <;> simp only [plugV] <;> rw [ih _ (by omega)]
        | r c => cases c <;> simp only [V.nodes] at hc <;> simp only [plugV] <;> rw [ih _ (by omega)]
        | _ => simp only [plugV]
      | loop a =>
        simp only [Ty.opened]
        cases c with
        | f c =>
          cases c with
          | l c => simp only [V.nodes] at hc; simp only [plugV]; rw [ih c (by omega)]
          | r c =>
            cases c with
            | p x y =>
              simp only [V.nodes] at hc
              simp only [plugV]
              have := ih y (by omega) (.loop a) k e
              simp only [Ty.opened] at this
              rw [this, ih x (by omega)]
            | _ => simp only [plugV]
          | _ => simp only [plugV]
        | _ => simp only [plugV]
      | bound j =>
        simp only [Ty.opened]
        split <;> cases c <;> simp only [plugV]
      | _ => rfl
  exact fun c t k e => key c.nodes c (Nat.le_refl _) t k e

end Go.Proofs.YtpokompplapkhaaGreatDoor
