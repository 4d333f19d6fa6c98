/- Holes and plugging, in plain Lean. -/
import Derived.Test.YtpokompplapkhaaGreatDoorVTy
import Derived.Test.YtpokompplapkhaaGreatDoorDerP
namespace Go.Proofs.YtpokompplapkhaaGreatDoor
open Go.RowKit
set_option linter.unusedVariables false
set_option linter.unusedSimpArgs false

/-- A value plugged into a context; types give the shape alone. -/
def plugV : V → Ty → V → V
  | .l c, .sum a _, e => .l (plugV c a e)
  | .r c, .sum _ b, e => .r (plugV c b e)
  | .l (.p x y), .prod a _, e => .p (plugV x a e) y
  | .r (.p x y), .prod _ b, e => .p x (plugV y b e)
  | .f (.l x), .loop a, e => .f (plugV x a e)
  | .f (.r (.p x y)), .loop a, e => .f (plugV x a (plugV y (.loop a) e))
  | _, _, e => e
/-- What is looked for: a free name, or a bound one. -/
inductive Tg where
  | nm (x : List UInt8)
  | bd (k : Nat)
def Tg.up : Tg → Tg
  | .nm x => .nm x
  | .bd k => .bd (k + 1)
def Tg.at : Tg → Ty → Bool
  | .nm x, .name s => decide (s = x)
  | .bd k, .bound j => decide (j = k)
  | _, _ => false
/-- The holes of a value of a type, in their order: contexts with what is left out. -/
def holesV : Nat → Ty → Tg → V → List (V × V)
  | 0, _, _, _ => []
  | n + 1, .sum a b, g, v => match v with
    | .l v => (holesV n a g v).map fun h => (.l h.1, h.2)
    | .r v => (holesV n b g v).map fun h => (.r h.1, h.2)
    | _ => []
  | n + 1, .prod a b, g, v => match v with
    | .p v w => ((holesV n a g v).map fun h => (V.l (.p h.1 w), h.2)) ++ (holesV n b g w).map fun h => (V.r (.p v h.1), h.2)
    | _ => []
  | n + 1, .loop a, g, v => match v with
    | .f v => ((holesV n a g.up v).map fun h => (V.f (.l h.1), h.2)) ++ (holesV n a (.bd 0) v).flatMap fun k => (holesV n (.loop a) g k.2).map fun h => (V.f (.r (.p k.1 h.1)), h.2)
    | _ => []
  | n + 1, t, g, v => if g.at t then [(.u, v)] else []
theorem hole_size : ∀ (n : Nat) (t : Ty) (g : Tg) (v : V), ∀ h ∈ holesV n t g v, h.2.nodes ≤ v.nodes := by
  intro n
  induction n with
  | zero => intro t g v h hm; cases hm
  | succ n ih =>
    intro t g v h hm
    cases t with
    | sum a b =>
      simp only [holesV] at hm
      split at hm
      · obtain ⟨h', hm', rfl⟩ := List.mem_map.1 hm
        have := ih _ _ _ _ hm'
        simp only [V.nodes]; omega
      · obtain ⟨h', hm', rfl⟩ := List.mem_map.1 hm
        have := ih _ _ _ _ hm'
        simp only [V.nodes]; omega
      · cases hm
    | prod a b =>
      simp only [holesV] at hm
      split at hm
      · rcases List.mem_append.1 hm with hm | hm
        · obtain ⟨h', hm', rfl⟩ := List.mem_map.1 hm
          have := ih _ _ _ _ hm'
          simp only [V.nodes]; omega
        · obtain ⟨h', hm', rfl⟩ := List.mem_map.1 hm
          have := ih _ _ _ _ hm'
          simp only [V.nodes]; omega
      · cases hm
    | loop a =>
      simp only [holesV] at hm
      split at hm
      · rcases List.mem_append.1 hm with hm | hm
        · obtain ⟨h', hm', rfl⟩ := List.mem_map.1 hm
          have := ih _ _ _ _ hm'
          simp only [V.nodes]; omega
        · obtain ⟨k, hk, hm⟩ := List.mem_flatMap.1 hm
          obtain ⟨h', hm', rfl⟩ := List.mem_map.1 hm
          have h1 := ih _ _ _ _ hk
          have h2 := ih _ _ _ _ hm'
          simp only [V.nodes]; omega
      · cases hm
    | zero =>
      simp only [holesV] at hm
      split at hm
      · rw [List.mem_singleton] at hm; subst hm; exact Nat.le_refl _
      · cases hm
    | one =>
      simp only [holesV] at hm
      split at hm
      · rw [List.mem_singleton] at hm; subst hm; exact Nat.le_refl _
      · cases hm
    | name s =>
      simp only [holesV] at hm
      split at hm
      · rw [List.mem_singleton] at hm; subst hm; exact Nat.le_refl _
      · cases hm
    | bound s =>
      simp only [holesV] at hm
      split at hm
      · rw [List.mem_singleton] at hm; subst hm; exact Nat.le_refl _
      · cases hm
/-- A hole plugged with what was left out. -/
theorem plug_hole : ∀ (n : Nat) (t : Ty) (g : Tg) (v : V), ∀ h ∈ holesV n t g v, plugV h.1 t h.2 = v := by
  intro n
  induction n with
  | zero => intro t g v h hm; cases hm
  | succ n ih =>
    intro t g v h hm
    cases t with
    | sum a b =>
      simp only [holesV] at hm
      split at hm
      · obtain ⟨h', hm', rfl⟩ := List.mem_map.1 hm
        simp only [plugV, ih _ _ _ _ hm']
      · obtain ⟨h', hm', rfl⟩ := List.mem_map.1 hm
        simp only [plugV, ih _ _ _ _ hm']
      · cases hm
    | prod a b =>
      simp only [holesV] at hm
      split at hm
      · rcases List.mem_append.1 hm with hm | hm
        · obtain ⟨h', hm', rfl⟩ := List.mem_map.1 hm
          simp only [plugV, ih _ _ _ _ hm']
        · obtain ⟨h', hm', rfl⟩ := List.mem_map.1 hm
          simp only [plugV, ih _ _ _ _ hm']
      · cases hm
    | loop a =>
      simp only [holesV] at hm
      split at hm
      · rcases List.mem_append.1 hm with hm | hm
        · obtain ⟨h', hm', rfl⟩ := List.mem_map.1 hm
          simp only [plugV, ih _ _ _ _ hm']
        · obtain ⟨k, hk, hm⟩ := List.mem_flatMap.1 hm
          obtain ⟨h', hm', rfl⟩ := List.mem_map.1 hm
          simp only [plugV, ih _ _ _ _ hm', ih _ _ _ _ hk]
      · cases hm
    | zero =>
      simp only [holesV] at hm
      split at hm
      · rw [List.mem_singleton] at hm; subst hm; rfl
      · cases hm
    | one =>
      simp only [holesV] at hm
      split at hm
      · rw [List.mem_singleton] at hm; subst hm; rfl
      · cases hm
    | name s =>
      simp only [holesV] at hm
      split at hm
      · rw [List.mem_singleton] at hm; subst hm; rfl
      · cases hm
    | bound s =>
      simp only [holesV] at hm
      split at hm
      · rw [List.mem_singleton] at hm; subst hm; rfl
      · cases hm

/-! ### a bound name opened -/
/-- The target as it is in the opened type: the bound name k becomes the name l. -/
def Tg.open (l : List UInt8) (k : Nat) : Tg → Tg
  | .nm x => .nm x
  | .bd j => if j = k then .nm l else if j < k then .bd j else .bd (j - 1)
theorem holes_opened (l : List UInt8) : ∀ (n : Nat) (t : Ty) (k : Nat) (v : V), ¬ t.has l → t.scoped (k + 1) →
    (holesV n (t.opened (.name l) k) (.nm l) v = holesV n t (.bd k) v) ∧ (∀ x, x ≠ l → holesV n (t.opened (.name l) k) (.nm x) v = holesV n t (.nm x) v) ∧ (∀ j, j < k → holesV n (t.opened (.name l) k) (.bd j) v = holesV n t (.bd j) v) := by
  intro n
  induction n with
  | zero => intro t k v _ _; exact ⟨rfl, fun _ _ => rfl, fun _ _ => rfl⟩
  | succ n ih =>
    intro t k v hl hs
    cases t with
    | sum a b =>
      have iha := fun v => ih a k v (fun h => hl (.inl h)) hs.1
      have ihb := fun v => ih b k v (fun h => hl (.inr h)) hs.2
      refine ⟨?_, fun x hx => ?_, fun j hj => ?_⟩
      · simp only [Ty.opened, holesV]
        cases v <;> simp only [(iha _).1, (ihb _).1]
      · simp only [Ty.opened, holesV]
        cases v <;> simp only [(iha _).2.1 x hx, (ihb _).2.1 x hx]
      · simp only [Ty.opened, holesV]
        cases v <;> simp only [(iha _).2.2 j hj, (ihb _).2.2 j hj]
    | prod a b =>
      have iha := fun v => ih a k v (fun h => hl (.inl h)) hs.1
      have ihb := fun v => ih b k v (fun h => hl (.inr h)) hs.2
      refine ⟨?_, fun x hx => ?_, fun j hj => ?_⟩
      · simp only [Ty.opened, holesV]
        cases v <;> simp only [(iha _).1, (ihb _).1]
      · simp only [Ty.opened, holesV]
        cases v <;> simp only [(iha _).2.1 x hx, (ihb _).2.1 x hx]
      · simp only [Ty.opened, holesV]
        cases v <;> simp only [(iha _).2.2 j hj, (ihb _).2.2 j hj]
    | loop a =>
      have iha := fun v => ih a (k + 1) v hl hs
      have ihl := fun v => ih (.loop a) k v hl hs
      refine ⟨?_, fun x hx => ?_, fun j hj => ?_⟩
      · simp only [Ty.opened, holesV, Tg.up]
        cases v with
        | f v =>
          simp only
          rw [(iha v).1, (iha v).2.2 0 (by omega)]
          congr 1
          refine congrArg (fun F => List.flatMap F _) (funext fun p => ?_)
          have := (ihl p.2).1
          simp only [Ty.opened] at this
          rw [this]
        | _ => rfl
      · simp only [Ty.opened, holesV, Tg.up]
        cases v with
        | f v =>
          simp only
          rw [(iha v).2.1 x hx, (iha v).2.2 0 (by omega)]
          congr 1
          refine congrArg (fun F => List.flatMap F _) (funext fun p => ?_)
          have := (ihl p.2).2.1 x hx
          simp only [Ty.opened] at this
          rw [this]
        | _ => rfl
      · simp only [Ty.opened, holesV, Tg.up]
        cases v with
        | f v =>
          simp only
          rw [(iha v).2.2 (j + 1) (by omega), (iha v).2.2 0 (by omega)]
          congr 1
          refine congrArg (fun F => List.flatMap F _) (funext fun p => ?_)
          have := (ihl p.2).2.2 j hj
          simp only [Ty.opened] at this
          rw [this]
        | _ => rfl
    | zero => exact ⟨rfl, fun _ _ => rfl, fun _ _ => rfl⟩
    | one => exact ⟨rfl, fun _ _ => rfl, fun _ _ => rfl⟩
    | name s =>
      have hl : ¬ s = l := hl
      exact ⟨by simp [Ty.opened, holesV, Tg.at, hl], fun x hx => rfl, fun j hj => rfl⟩
    | bound i =>
      have hs : i < k + 1 := hs
      by_cases hi : i = k
      · subst hi
        refine ⟨by simp [Ty.opened, holesV, Tg.at], fun x hx => by simp [Ty.opened, holesV, Tg.at, Ne.symm hx], fun j hj => ?_⟩
        have : ¬ i = j := by omega
        simp [Ty.opened, holesV, Tg.at, this]
      · have hno : (Ty.bound i).opened (.name l) k = .bound i := by simp only [Ty.opened]; rw [if_neg hi]
        rw [hno]
        exact ⟨by simp [holesV, Tg.at, hi], fun x hx => rfl, fun j hj => rfl⟩

end Go.Proofs.YtpokompplapkhaaGreatDoor
