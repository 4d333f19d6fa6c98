/- Whether derivatives are empty, by reckoning with truth values; both orders are as empty. -/
import Derived.Test.YtcfecmlfcjgdbaaGreatDoorHolP
import Derived.Test.YtcfecmlfcjgdbaaGreatDoorNam
namespace Go.Proofs.YtcfecmlfcjgdbaaGreatDoor
open Go.RowKit
set_option linter.unusedVariables false
set_option linter.unusedSimpArgs false

def Ty.empS (σ : List UInt8 → Bool) : List Bool → Ty → Bool
  | _, .zero => true
  | _, .one => false
  | _, .name s => σ s
  | env, .bound k => (env[k]?).getD true
  | env, .sum a b => a.empS σ env && b.empS σ env
  | env, .prod a b => a.empS σ env || b.empS σ env
  | env, .loop a => a.empS σ (true :: env)
/-- No value has a place of the target. -/
def Ty.noP (σ : List UInt8 → Bool) : Tg → List Bool → Ty → Bool
  | _, _, .zero => true
  | _, _, .one => true
  | g, _, .name s => !(g.at (.name s))
  | g, _, .bound k => !(g.at (.bound k))
  | g, env, .sum a b => a.noP σ g env && b.noP σ g env
  | g, env, .prod a b => (a.noP σ g env || b.empS σ env) && (a.empS σ env || b.noP σ g env)
  | g, env, .loop a => a.noP σ g.up (a.empS σ (true :: env) :: env)
/-- No value has places of both. -/
def Ty.noPP (σ : List UInt8 → Bool) : Tg → Tg → List Bool → Ty → Bool
  | _, _, _, .zero => true
  | _, _, _, .one => true
  | _, _, _, .name _ => true
  | _, _, _, .bound _ => true
  | g, h, env, .sum a b => a.noPP σ g h env && b.noPP σ g h env
  | g, h, env, .prod a b => ((a.noPP σ g h env || b.empS σ env) && (a.noP σ g env || b.noP σ h env)) && ((a.noP σ h env || b.noP σ g env) && (a.empS σ env || b.noPP σ g h env))
  | g, h, env, .loop a =>
    (a.noPP σ g.up h.up (a.empS σ (true :: env) :: env) && (a.noPP σ g.up (.bd 0) (a.empS σ (true :: env) :: env) || a.noP σ h.up (a.empS σ (true :: env) :: env))) &&
    ((a.noPP σ (.bd 0) h.up (a.empS σ (true :: env) :: env) && (a.noPP σ (.bd 0) (.bd 0) (a.empS σ (true :: env) :: env) || a.noP σ h.up (a.empS σ (true :: env) :: env))) || a.noP σ g.up (a.empS σ (true :: env) :: env))
theorem noPP_comm (σ : List UInt8 → Bool) : ∀ (t : Ty) (g h : Tg) (env : List Bool), t.noPP σ g h env = t.noPP σ h g env
  | .zero, _, _, _ => rfl
  | .one, _, _, _ => rfl
  | .name _, _, _, _ => rfl
  | .bound _, _, _, _ => rfl
  | .sum a b, g, h, env => by simp only [Ty.noPP, noPP_comm σ a g h, noPP_comm σ b g h]
  | .prod a b, g, h, env => by
    simp only [Ty.noPP, noPP_comm σ a g h, noPP_comm σ b g h]
    generalize a.noPP σ h g env = p1
    generalize b.noPP σ h g env = p2
    generalize a.noP σ g env = p3
    generalize a.noP σ h env = p4
    generalize b.noP σ g env = p5
    generalize b.noP σ h env = p6
    generalize a.empS σ env = p7
    generalize b.empS σ env = p8
    revert p1 p2 p3 p4 p5 p6 p7 p8
    decide
  | .loop a, g, h, env => by
    simp only [Ty.noPP]
    generalize (a.empS σ (true :: env) :: env) = env'
    rw [noPP_comm σ a g.up h.up, noPP_comm σ a g.up (.bd 0), noPP_comm σ a (.bd 0) h.up]
    generalize a.noPP σ h.up g.up env' = p1
    generalize a.noPP σ (.bd 0) g.up env' = p2
    generalize a.noPP σ h.up (.bd 0) env' = p3
    generalize a.noPP σ (.bd 0) (.bd 0) env' = p4
    generalize a.noP σ g.up env' = p5
    generalize a.noP σ h.up env' = p6
    revert p1 p2 p3 p4 p5 p6
    decide
theorem emp_empS : ∀ (t : Ty) (env : List Bool), (∀ b ∈ env, b = true) → t.emp = t.empS (fun _ => false) env
  | .zero, _, _ => rfl
  | .one, _, _ => rfl
  | .name _, _, _ => rfl
  | .bound k, env, h => by
    simp only [Ty.emp, Ty.empS]
    cases hk : env[k]? with
    | none => rfl
    | some b => rw [h b (List.mem_of_getElem? hk)]; rfl
  | .sum a b, env, h => by simp only [Ty.emp, Ty.empS, emp_empS a env h, emp_empS b env h]
  | .prod a b, env, h => by simp only [Ty.emp, Ty.empS, emp_empS a env h, emp_empS b env h]
  | .loop a, env, h => by
    simp only [Ty.emp, Ty.empS]
    exact emp_empS a (true :: env) fun b hb => (List.mem_cons.1 hb).elim id (h b)

/-! ### what lies behind makes no difference -/
theorem empS_app (σ : List UInt8 → Bool) : ∀ (t : Ty) (env e2 : List Bool), t.scoped env.length → t.empS σ (env ++ e2) = t.empS σ env
  | .zero, _, _, _ => rfl
  | .one, _, _, _ => rfl
  | .name _, _, _, _ => rfl
  | .bound k, env, e2, h => by
    have h : k < env.length := h
    simp only [Ty.empS]
    rw [List.getElem?_append_left h]
  | .sum a b, env, e2, h => by simp only [Ty.empS, empS_app σ a env e2 h.1, empS_app σ b env e2 h.2]
  | .prod a b, env, e2, h => by simp only [Ty.empS, empS_app σ a env e2 h.1, empS_app σ b env e2 h.2]
  | .loop a, env, e2, h => empS_app σ a (true :: env) e2 h
theorem noP_app (σ : List UInt8 → Bool) (x : List UInt8) : ∀ (t : Ty) (env e2 : List Bool), t.scoped env.length → t.noP σ (.nm x) (env ++ e2) = t.noP σ (.nm x) env
  | .zero, _, _, _ => rfl
  | .one, _, _, _ => rfl
  | .name _, _, _, _ => rfl
  | .bound k, _, _, _ => rfl
  | .sum a b, env, e2, h => by simp only [Ty.noP, noP_app σ x a env e2 h.1, noP_app σ x b env e2 h.2]
  | .prod a b, env, e2, h => by simp only [Ty.noP, noP_app σ x a env e2 h.1, noP_app σ x b env e2 h.2, empS_app σ a env e2 h.1, empS_app σ b env e2 h.2]
  | .loop a, env, e2, h => by
    simp only [Ty.noP, Tg.up]
    rw [show true :: (env ++ e2) = (true :: env) ++ e2 from rfl, empS_app σ a (true :: env) e2 h]
    exact noP_app σ x a (a.empS σ (true :: env) :: env) e2 h

/-! ### put in -/
def sigP (σ : List UInt8 → Bool) (l : List UInt8) (b : Bool) : List UInt8 → Bool := fun s => if s = l then b else σ s
theorem empS_put (σ : List UInt8 → Bool) (l : List UInt8) (T : Ty) (hT : T.scoped 0) : ∀ (t : Ty) (env : List Bool), (t.put l T).empS σ env = t.empS (sigP σ l (T.empS σ [])) env
  | .zero, _ => rfl
  | .one, _ => rfl
  | .bound _, _ => rfl
  | .name s, env => by
    simp only [Ty.put, Ty.empS, sigP]
    split
    · exact empS_app σ T [] env hT
    · rfl
  | .sum a b, env => by simp only [Ty.put, Ty.empS, empS_put σ l T hT a, empS_put σ l T hT b]
  | .prod a b, env => by simp only [Ty.put, Ty.empS, empS_put σ l T hT a, empS_put σ l T hT b]
  | .loop a, env => empS_put σ l T hT a (true :: env)
/-- The chain rule. -/
theorem noP_put (σ : List UInt8 → Bool) (l y : List UInt8) (hy : y ≠ l) (T : Ty) (hT : T.scoped 0) : ∀ (t : Ty) (env : List Bool),
    (t.put l T).noP σ (.nm y) env = (t.noP (sigP σ l (T.empS σ [])) (.nm y) env && (t.noP (sigP σ l (T.empS σ [])) (.nm l) env || T.noP σ (.nm y) []))
  | .zero, _ => rfl
  | .one, _ => rfl
  | .bound _, _ => by simp [Ty.put, Ty.noP, Tg.at]
  | .name s, env => by
    simp only [Ty.put]
    by_cases h : s = l
    · subst h
      rw [if_pos rfl, show T.noP σ (.nm y) env = T.noP σ (.nm y) [] from noP_app σ y T [] env hT]
      simp [Ty.noP, Tg.at, Ne.symm hy]
    · rw [if_neg h]
      simp [Ty.noP, Tg.at, h]
  | .sum a b, env => by
    simp only [Ty.put, Ty.noP, noP_put σ l y hy T hT a, noP_put σ l y hy T hT b]
    generalize a.noP (sigP σ l (T.empS σ [])) (.nm y) env = p1
    generalize a.noP (sigP σ l (T.empS σ [])) (.nm l) env = p2
    generalize b.noP (sigP σ l (T.empS σ [])) (.nm y) env = p3
    generalize b.noP (sigP σ l (T.empS σ [])) (.nm l) env = p4
    generalize T.noP σ (.nm y) [] = p5
    revert p1 p2 p3 p4 p5
    decide
  | .prod a b, env => by
    simp only [Ty.put, Ty.noP, noP_put σ l y hy T hT a, noP_put σ l y hy T hT b, empS_put σ l T hT]
    generalize a.noP (sigP σ l (T.empS σ [])) (.nm y) env = p1
    generalize a.noP (sigP σ l (T.empS σ [])) (.nm l) env = p2
    generalize b.noP (sigP σ l (T.empS σ [])) (.nm y) env = p3
    generalize b.noP (sigP σ l (T.empS σ [])) (.nm l) env = p4
    generalize T.noP σ (.nm y) [] = p5
    generalize a.empS (sigP σ l (T.empS σ [])) env = p6
    generalize b.empS (sigP σ l (T.empS σ [])) env = p7
    revert p1 p2 p3 p4 p5 p6 p7
    decide
  | .loop a, env => by
    simp only [Ty.put, Ty.noP, Tg.up, empS_put σ l T hT]
    exact noP_put σ l y hy T hT a _

/-! ### opened -/
theorem get_mid (env : List Bool) (b : Bool) : (env ++ [b])[env.length]? = some b := by simp
theorem empS_opened (σ : List UInt8 → Bool) (l : List UInt8) (b : Bool) : ∀ (t : Ty) (env : List Bool), ¬ t.has l → t.scoped (env.length + 1) → (t.opened (.name l) env.length).empS (sigP σ l b) env = t.empS σ (env ++ [b])
  | .zero, _, _, _ => rfl
  | .one, _, _, _ => rfl
  | .name s, env, h, _ => by
    have h : ¬ s = l := h
    simp only [Ty.opened, Ty.empS, sigP]
    rw [if_neg h]
  | .bound k, env, h, hs => by
    have hs : k < env.length + 1 := hs
    simp only [Ty.opened]
    split
    · rename_i hk
      subst hk
      simp only [Ty.empS, sigP]
      rw [get_mid]
      simp
    · simp only [Ty.empS]
      rw [List.getElem?_append_left (by omega)]
  | .sum a b', env, h, hs => by simp only [Ty.opened, Ty.empS, empS_opened σ l b a env (fun hh => h (.inl hh)) hs.1, empS_opened σ l b b' env (fun hh => h (.inr hh)) hs.2]
  | .prod a b', env, h, hs => by simp only [Ty.opened, Ty.empS, empS_opened σ l b a env (fun hh => h (.inl hh)) hs.1, empS_opened σ l b b' env (fun hh => h (.inr hh)) hs.2]
  | .loop a, env, h, hs => empS_opened σ l b a (true :: env) h hs
/-- A target and what it is in the opened type. -/
inductive Opn (l : List UInt8) (k : Nat) : Tg → Tg → Prop where
  | nm (x : List UInt8) (h : x ≠ l) : Opn l k (.nm x) (.nm x)
  | here : Opn l k (.bd k) (.nm l)
  | bd (j : Nat) (h : j < k) : Opn l k (.bd j) (.bd j)
theorem Opn.up {l : List UInt8} {k : Nat} {g g' : Tg} (h : Opn l k g g') : Opn l (k + 1) g.up g'.up := by
  cases h with
  | nm x h => exact .nm x h
  | here => exact .here
  | bd j h => exact .bd (j + 1) (by omega)
theorem Opn.zero {l : List UInt8} {k : Nat} : Opn l (k + 1) (.bd 0) (.bd 0) := .bd 0 (by omega)
theorem noP_opened (σ : List UInt8 → Bool) (l : List UInt8) (b : Bool) : ∀ (t : Ty) (env : List Bool) (g g' : Tg), Opn l env.length g g' → ¬ t.has l → t.scoped (env.length + 1) → (t.opened (.name l) env.length).noP (sigP σ l b) g' env = t.noP σ g (env ++ [b])
  | .zero, _, _, _, _, _, _ => rfl
  | .one, _, _, _, _, _, _ => rfl
  | .name s, env, g, g', ho, h, _ => by
    have h : ¬ s = l := h
    cases ho <;> simp [Ty.opened, Ty.noP, Tg.at, h]
  | .bound k, env, g, g', ho, h, hs => by
    have hs : k < env.length + 1 := hs
    by_cases hk : k = env.length
    · subst hk
      cases ho with
      | nm x hx => simp [Ty.opened, Ty.noP, Tg.at, Ne.symm hx]
      | here => simp [Ty.opened, Ty.noP, Tg.at]
      | bd j hj =>
        have : ¬ env.length = j := by omega
        simp [Ty.opened, Ty.noP, Tg.at, this]
    · cases ho with
      | nm x hx => simp [Ty.opened, Ty.noP, Tg.at, hk]
      | here => simp [Ty.opened, Ty.noP, Tg.at, hk]
      | bd j hj => simp [Ty.opened, Ty.noP, Tg.at, hk]
  | .sum a b', env, g, g', ho, h, hs => by simp only [Ty.opened, Ty.noP, noP_opened σ l b a env g g' ho (fun hh => h (.inl hh)) hs.1, noP_opened σ l b b' env g g' ho (fun hh => h (.inr hh)) hs.2]
  | .prod a b', env, g, g', ho, h, hs => by simp only [Ty.opened, Ty.noP, noP_opened σ l b a env g g' ho (fun hh => h (.inl hh)) hs.1, noP_opened σ l b b' env g g' ho (fun hh => h (.inr hh)) hs.2, empS_opened σ l b a env (fun hh => h (.inl hh)) hs.1, empS_opened σ l b b' env (fun hh => h (.inr hh)) hs.2]
  | .loop a, env, g, g', ho, h, hs => by
    simp only [Ty.opened, Ty.noP]
    have h1 := empS_opened σ l b a (true :: env) h hs
    simp only [List.length_cons] at h1
    rw [h1]
    have := noP_opened σ l b a (a.empS σ (true :: env ++ [b]) :: env) g.up g'.up ho.up h hs
    simpa using this
theorem noPP_opened (σ : List UInt8 → Bool) (l : List UInt8) (b : Bool) : ∀ (t : Ty) (env : List Bool) (g g' h h' : Tg), Opn l env.length g g' → Opn l env.length h h' → ¬ t.has l → t.scoped (env.length + 1) → (t.opened (.name l) env.length).noPP (sigP σ l b) g' h' env = t.noPP σ g h (env ++ [b])
  | .zero, _, _, _, _, _, _, _, _, _ => rfl
  | .one, _, _, _, _, _, _, _, _, _ => rfl
  | .name s, _, _, _, _, _, _, _, _, _ => rfl
  | .bound k, env, _, _, _, _, _, _, _, _ => by
    simp only [Ty.opened]
    split <;> rfl
  | .sum a b', env, g, g', h, h', hg, hh, hl, hs => by simp only [Ty.opened, Ty.noPP, noPP_opened σ l b a env g g' h h' hg hh (fun k => hl (.inl k)) hs.1, noPP_opened σ l b b' env g g' h h' hg hh (fun k => hl (.inr k)) hs.2]
  | .prod a b', env, g, g', h, h', hg, hh, hl, hs => by
    simp only [Ty.opened, Ty.noPP, noPP_opened σ l b a env g g' h h' hg hh (fun k => hl (.inl k)) hs.1, noPP_opened σ l b b' env g g' h h' hg hh (fun k => hl (.inr k)) hs.2,
      noP_opened σ l b a env g g' hg (fun k => hl (.inl k)) hs.1, noP_opened σ l b b' env g g' hg (fun k => hl (.inr k)) hs.2, noP_opened σ l b a env h h' hh (fun k => hl (.inl k)) hs.1, noP_opened σ l b b' env h h' hh (fun k => hl (.inr k)) hs.2,
      empS_opened σ l b a env (fun k => hl (.inl k)) hs.1, empS_opened σ l b b' env (fun k => hl (.inr k)) hs.2]
  | .loop a, env, g, g', h, h', hg, hh, hl, hs => by
    simp only [Ty.opened, Ty.noPP]
    have h1 := empS_opened σ l b a (true :: env) hl hs
    simp only [List.length_cons] at h1
    rw [h1]
    have e1 : ∀ q : Bool, (q :: env).length = env.length + 1 := fun q => rfl
    have k1 := noPP_opened σ l b a (a.empS σ (true :: env ++ [b]) :: env) g.up g'.up h.up h'.up hg.up hh.up hl hs
    have k2 := noPP_opened σ l b a (a.empS σ (true :: env ++ [b]) :: env) g.up g'.up (.bd 0) (.bd 0) hg.up .zero hl hs
    have k3 := noPP_opened σ l b a (a.empS σ (true :: env ++ [b]) :: env) (.bd 0) (.bd 0) h.up h'.up .zero hh.up hl hs
    have k4 := noPP_opened σ l b a (a.empS σ (true :: env ++ [b]) :: env) (.bd 0) (.bd 0) (.bd 0) (.bd 0) .zero .zero hl hs
    have k5 := noP_opened σ l b a (a.empS σ (true :: env ++ [b]) :: env) g.up g'.up hg.up hl hs
    have k6 := noP_opened σ l b a (a.empS σ (true :: env ++ [b]) :: env) h.up h'.up hh.up hl hs
    simp only [e1, List.cons_append] at k1 k2 k3 k4 k5 k6 ⊢
    rw [k1, k2, k3, k4, k5, k6]

end Go.Proofs.YtcfecmlfcjgdbaaGreatDoor
