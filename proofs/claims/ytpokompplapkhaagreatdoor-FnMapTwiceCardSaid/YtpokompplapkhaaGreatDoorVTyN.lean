/- Changes and labels of values, over named types. -/
import Derived.Test.YtpokompplapkhaaGreatDoorVTy
namespace Go.Proofs.YtpokompplapkhaaGreatDoor
open Go.RowKit
set_option linter.unusedVariables false
set_option linter.unusedSimpArgs false
def V.turnN (g : List UInt8 → List UInt8 → List UInt8) : V → List (List UInt8 × NT) → NT → V
  | .el s, env, .name x => match lookN x env with
    | some _ => .el s
    | none => .el (g x s)
  | .l v, env, .sum a _ => .l (v.turnN g env a)
  | .r v, env, .sum _ b => .r (v.turnN g env b)
  | .p v w, env, .prod a b => .p (v.turnN g env a) (w.turnN g env b)
  | .f v, env, .loop x a => .f (v.turnN g ((x, .loop x a) :: env) a)
  | .f v, env, .name s => match lookN s env with
    | some (.loop x a, _ :: rest) => .f (v.turnN g ((x, .loop x a) :: rest) a)
    | _ => .f v
  | v, _, _ => v
def V.labsN : V → List (List UInt8 × NT) → NT → List (List UInt8 × List UInt8)
  | .el s, env, .name x => match lookN x env with
    | some _ => []
    | none => [(x, s)]
  | .l v, env, .sum a _ => v.labsN env a
  | .r v, env, .sum _ b => v.labsN env b
  | .p v w, env, .prod a b => v.labsN env a ++ w.labsN env b
  | .f v, env, .loop x a => v.labsN ((x, .loop x a) :: env) a
  | .f v, env, .name s => match lookN s env with
    | some (.loop x a, _ :: rest) => v.labsN ((x, .loop x a) :: rest) a
    | _ => []
  | _, _, _ => []
/-- Named and nameless agree, where the free names are parameters. -/
theorem turnN_db (g : List UInt8 → List UInt8 → List UInt8) : ∀ (v : V) (env : List (List UInt8 × NT)) (N : NT), EnvOk env → N.ok3 → (∀ s, (N.db (env.map (·.1))).has s → paramB s = true) → (∀ e ∈ env, e.2.ok3) → (∀ (k : Nat) (e : List UInt8 × NT) (r : List (List UInt8 × NT)), env.drop k = e :: r → ∀ s, (e.2.db (r.map (·.1))).has s → paramB s = true) →
    v.turnN g env N = v.turn g (envTy env) (N.db (env.map (·.1))) := by
  intro v
  induction v with
  | u =>
    intro env N he hN hp ho hq
    cases N with
    | name s =>
      simp only [NT.db]
      split
      · rfl
      · split <;> rfl
    | _ => rfl
  | el e =>
    intro env N he hN hp ho hq
    cases N with
    | name s =>
      simp only [V.turnN]
      cases hl : lookN s env with
      | none =>
        have h1 := (lookN_look env).1 hl
        have hs : paramB s = true := hp s (by
          simp only [NT.db]
          split
          · rfl
          · rw [h1]; rfl)
        simp only [NT.db]
        rw [if_pos hs]
        rfl
      | some q =>
        obtain ⟨L, r⟩ := q
        obtain ⟨k, hk, _⟩ := (lookN_look env).2 L r hl
        have hs := (lookN_ok he L r hl).2
        simp only [NT.db]
        rw [if_neg (by rw [hs]; simp), hk]
        rfl
    | _ => rfl
  | l v ih =>
    intro env N he hN hp ho hq
    cases N with
    | sum a b => exact congrArg V.l <| ih env a he hN.1 (fun s h => hp s (.inl h)) ho hq
    | name s =>
      simp only [NT.db]
      split
      · rfl
      · split <;> rfl
    | _ => rfl
  | r v ih =>
    intro env N he hN hp ho hq
    cases N with
    | sum a b => exact congrArg V.r <| ih env b he hN.2 (fun s h => hp s (.inr h)) ho hq
    | name s =>
      simp only [NT.db]
      split
      · rfl
      · split <;> rfl
    | _ => rfl
  | p v w ih ih2 =>
    intro env N he hN hp ho hq
    cases N with
    | prod a b =>
      simp only [V.turnN, NT.db, V.turn]
      rw [ih env a he hN.1 (fun s h => hp s (.inl h)) ho hq, ih2 env b he hN.2 (fun s h => hp s (.inr h)) ho hq]
    | name s =>
      simp only [NT.db]
      split
      · rfl
      · split <;> rfl
    | _ => rfl
  | f v ih =>
    intro env N he hN hp ho hq
    have loopcase : ∀ (rest : List (List UInt8 × NT)) (x : List UInt8) (a : NT), EnvOk rest → (NT.loop x a).ok3 → (∀ s, ((NT.loop x a).db (rest.map (·.1))).has s → paramB s = true) → (∀ e ∈ rest, e.2.ok3) → (∀ (k : Nat) (e : List UInt8 × NT) (r : List (List UInt8 × NT)), rest.drop k = e :: r → ∀ s, (e.2.db (r.map (·.1))).has s → paramB s = true) →
        v.turnN g ((x, .loop x a) :: rest) a = v.turn g (.loop (a.db (x :: rest.map (·.1))) :: envTy rest) (a.db (x :: rest.map (·.1))) := fun rest x a h1 h2 h3 h4 h5 => by
      refine ih ((x, .loop x a) :: rest) a ⟨⟨a, rfl⟩, h2.1.2, h1⟩ h2.2 h3 (fun e hm => ?_) (fun k e r hd => ?_)
      · rcases List.mem_cons.1 hm with rfl | hm
        · exact h2
        · exact h4 e hm
      · cases k with
        | zero => cases hd; exact h3
        | succ k => exact h5 k e r hd
    cases N with
    | loop x a => exact congrArg V.f <| loopcase env x a he hN hp ho hq
    | name s =>
      simp only [V.turnN]
      cases hl : lookN s env with
      | none =>
        have h1 := (lookN_look env).1 hl
        simp only [NT.db]
        split
        · rfl
        · rw [h1]; rfl
      | some q =>
        obtain ⟨L, r⟩ := q
        obtain ⟨k, hk, hd, r', hr⟩ := (lookN_look env).2 L r hl
        subst hr
        have hs := (lookN_ok he L _ hl).2
        have heo := (lookN_ok he L _ hl).1
        obtain ⟨⟨a, ha⟩, hpn, her⟩ := heo
        have ha : L = .loop s a := ha
        subst ha
        have hmem : ∀ e ∈ (s, NT.loop s a) :: r', e ∈ env := fun e hm => by rw [← hd] at hm; exact List.mem_of_mem_drop hm
        simp only [NT.db]
        rw [if_neg (by rw [hs]; simp), hk]
        simp only [V.turn]
        rw [envTy_drop, hd]
        simp only [envTy, NT.db]
        refine congrArg V.f <| loopcase r' s a her (ho _ (hmem _ (List.mem_cons_self ..))) (hq k _ r' hd) (fun e hm => ho e (hmem e (List.mem_cons_of_mem _ hm))) (fun j e r hj => hq (k + 1 + j) e r ?_)
        rw [Nat.add_assoc, ← List.drop_drop, hd, Nat.add_comm 1 j]
        exact hj
    | _ => rfl
end Go.Proofs.YtpokompplapkhaaGreatDoor

