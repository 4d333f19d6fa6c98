/- Holes for names, over named types; and what is missed for a bound name that is hidden. -/
import Derived.Test.YtpokompplapkhaaGreatDoorHolP
namespace Go.Proofs.YtpokompplapkhaaGreatDoor
open Go.RowKit
set_option linter.unusedVariables false
set_option linter.unusedSimpArgs false

/-- The holes of a value of a named type for a name. -/
def holesN : Nat → NT → List UInt8 → V → List (V × V)
  | 0, _, _, _ => []
  | n + 1, .sum a b, x, v => match v with
    | .l v => (holesN n a x v).map fun h => (.l h.1, h.2)
    | .r v => (holesN n b x v).map fun h => (.r h.1, h.2)
    | _ => []
  | n + 1, .prod a b, x, v => match v with
    | .p v w => ((holesN n a x v).map fun h => (V.l (.p h.1 w), h.2)) ++ (holesN n b x w).map fun h => (V.r (.p v h.1), h.2)
    | _ => []
  | n + 1, .loop y a, x, v => if y = x then [] else match v with
    | .f v => ((holesN n a x v).map fun h => (V.f (.l h.1), h.2)) ++ (holesN n a y v).flatMap fun k => (holesN n (.loop y a) x k.2).map fun h => (V.f (.r (.p k.1 h.1)), h.2)
    | _ => []
  | n + 1, .name s, x, v => if s = x then [(.u, v)] else []
  | _ + 1, _, _, _ => []
theorem look_inj {s x : List UInt8} {k : Nat} : ∀ (env : List (List UInt8)), look s env = some k → look x env = some k → s = x := by
  intro env
  induction env generalizing k with
  | nil => intro h; cases h
  | cons e es ih =>
    intro h1 h2
    simp only [look] at h1 h2
    split at h1
    · rename_i he
      cases h1
      split at h2
      · rename_i he2
        exact he.symm.trans he2
      · cases hq : look x es with
        | none => rw [hq] at h2; cases h2
        | some q => rw [hq] at h2; cases h2
    · split at h2
      · cases h2
        cases hq : look s es with
        | none => rw [hq] at h1; cases h1
        | some q => rw [hq] at h1; cases h1
      · cases hq : look x es with
        | none => rw [hq] at h2; cases h2
        | some q =>
          cases hq2 : look s es with
          | none => rw [hq2] at h1; cases h1
          | some q2 =>
            rw [hq] at h2
            rw [hq2] at h1
            have e1 : q2 + 1 = k := Option.some.inj h1
            have e2 : q + 1 = k := Option.some.inj h2
            have : q2 = q := by omega
            subst this
            exact ih hq2 hq
theorem holesV_name (n : Nat) (s : List UInt8) (g : Tg) (v : V) : holesV (n + 1) (.name s) g v = if g.at (.name s) then [(.u, v)] else [] := by simp only [holesV]
theorem holesV_bound (n : Nat) (k : Nat) (g : Tg) (v : V) : holesV (n + 1) (.bound k) g v = if g.at (.bound k) then [(.u, v)] else [] := by simp only [holesV]
/-- Where no name stands for a bound place, nothing is found for it. -/
theorem holes_hidden : ∀ (n : Nat) (N : NT) (env : List (List UInt8)) (k : Nat) (v : V), (∀ s, look s env ≠ some k) → holesV n (N.db env) (.bd k) v = [] := by
  intro n
  induction n with
  | zero => intros; rfl
  | succ n ih =>
    intro N env k v hk
    cases N with
    | zero => simp [NT.db, holesV, Tg.at]
    | one => simp [NT.db, holesV, Tg.at]
    | name s =>
      simp only [NT.db]
      split
      · simp [holesV, Tg.at]
      · cases hl : look s env with
        | none => simp [holesV, Tg.at]
        | some j =>
          show holesV (n + 1) (.bound j) _ _ = _
          rw [holesV_bound]
          have : j ≠ k := by rintro rfl; exact hk s hl
          simp [Tg.at, this]
    | sum a b =>
      simp only [NT.db, holesV]
      split
      · rw [ih _ _ _ _ hk]; rfl
      · rw [ih _ _ _ _ hk]; rfl
      · rfl
    | prod a b =>
      simp only [NT.db, holesV]
      split
      · rw [ih _ _ _ _ hk, ih _ _ _ _ hk]; rfl
      · rfl
    | loop y a =>
      have h2 : ∀ s, look s (y :: env) ≠ some (k + 1) := fun s h => by
        simp only [look] at h
        split at h
        · cases h
        · cases hq : look s env with
          | none => rw [hq] at h; cases h
          | some q =>
            rw [hq] at h
            have : q + 1 = k + 1 := Option.some.inj h
            exact hk s (by rw [hq]; congr 1; omega)
      simp only [NT.db, holesV]
      split
      · rw [show (Tg.bd k).up = .bd (k + 1) from rfl, ih _ _ _ _ h2]
        simp only [List.map_nil, List.nil_append, List.flatMap_eq_nil_iff]
        intro h hm
        have := ih (.loop y a) env k h.2 hk
        simp only [NT.db] at this
        rw [this]
        rfl
      · rfl
/-- Holes for a name are holes for what the name stands for. -/
theorem holesN_db : ∀ (n : Nat) (N : NT) (env : List (List UInt8)) (x : List UInt8) (v : V), N.ok3 →
    (paramB x = true → holesN n N x v = holesV n (N.db env) (.nm x) v) ∧ (∀ k, paramB x = false → look x env = some k → holesN n N x v = holesV n (N.db env) (.bd k) v) := by
  intro n
  induction n with
  | zero => intros; exact ⟨fun _ => rfl, fun _ _ _ => rfl⟩
  | succ n ih =>
    intro N env x v hN
    cases N with
    | zero => exact ⟨fun _ => by simp [holesN, NT.db, holesV, Tg.at], fun _ _ _ => by simp [holesN, NT.db, holesV, Tg.at]⟩
    | one => exact ⟨fun _ => by simp [holesN, NT.db, holesV, Tg.at], fun _ _ _ => by simp [holesN, NT.db, holesV, Tg.at]⟩
    | name s =>
      constructor
      · intro hp
        simp only [holesN, NT.db]
        by_cases hs : paramB s = true
        · rw [if_pos hs, holesV_name]
          simp [Tg.at]
        · have hne : s ≠ x := by rintro rfl; exact hs hp
          rw [if_neg hs, if_neg hne]
          cases hl : look s env with
          | none => rw [holesV_name]; simp [Tg.at, hne]
          | some j => rw [holesV_bound]; simp [Tg.at]
      · intro k hp hk
        simp only [holesN, NT.db]
        by_cases hs : paramB s = true
        · have hne : s ≠ x := by rintro rfl; rw [hp] at hs; cases hs
          rw [if_pos hs, if_neg hne, holesV_name]
          simp [Tg.at]
        · rw [if_neg hs]
          cases hl : look s env with
          | none =>
            have hne : s ≠ x := by rintro rfl; rw [hk] at hl; cases hl
            rw [if_neg hne, holesV_name]
            simp [Tg.at]
          | some j =>
            rw [holesV_bound]
            by_cases hsx : s = x
            · subst hsx
              rw [hk] at hl
              cases hl
              simp [Tg.at]
            · rw [if_neg hsx]
              have : j ≠ k := by rintro rfl; exact hsx (look_inj env hl hk)
              simp [Tg.at, this]
    | sum a b =>
      refine ⟨fun hp => ?_, fun k hp hk => ?_⟩ <;> cases v <;> simp only [holesN, NT.db, holesV]
      · rw [(ih a env x _ hN.1).1 hp]
      · rw [(ih b env x _ hN.2).1 hp]
      · rw [(ih a env x _ hN.1).2 k hp hk]
      · rw [(ih b env x _ hN.2).2 k hp hk]
    | prod a b =>
      refine ⟨fun hp => ?_, fun k hp hk => ?_⟩ <;> cases v <;> simp only [holesN, NT.db, holesV]
      · rw [(ih a env x _ hN.1).1 hp, (ih b env x _ hN.2).1 hp]
      · rw [(ih a env x _ hN.1).2 k hp hk, (ih b env x _ hN.2).2 k hp hk]
    | loop y a =>
      have hy : paramB y = false := hN.1.2
      have h0 : look y (y :: env) = some 0 := by simp [look]
      constructor
      · intro hp
        have hne : y ≠ x := by rintro rfl; rw [hp] at hy; cases hy
        simp only [holesN, NT.db, holesV]
        rw [if_neg hne]
        cases v <;> try rfl
        rename_i v
        show List.map _ _ ++ _ = List.map _ _ ++ _
        rw [(ih a (y :: env) x v hN.2).1 hp, (ih a (y :: env) y v hN.2).2 0 hy h0]
        congr 1
        refine congrArg (fun f => List.flatMap f _) (funext fun q => ?_)
        have := (ih (.loop y a) env x q.2 hN).1 hp
        simp only [NT.db] at this
        rw [this]
      · intro k hp hk
        simp only [holesN]
        by_cases hyx : y = x
        · subst hyx
          rw [if_pos rfl]
          have h2 : ∀ s, look s (y :: env) ≠ some (k + 1) := fun s h => by
            simp only [look] at h
            split at h
            · cases h
            · rename_i hys
              cases hq : look s env with
              | none => rw [hq] at h; cases h
              | some q =>
                rw [hq] at h
                have e : q + 1 = k + 1 := Option.some.inj h
                have e : q = k := by omega
                subst e
                exact hys (look_inj env hk hq)
          have hh : ∀ m v, holesV m (Ty.loop (a.db (y :: env))) (.bd k) v = [] := by
            intro m
            induction m with
            | zero => intro v; rfl
            | succ m ihm =>
              intro v
              simp only [holesV]
              split
              · rw [show (Tg.bd k).up = .bd (k + 1) from rfl, holes_hidden _ _ _ _ _ h2]
                simp only [List.map_nil, List.nil_append, List.flatMap_eq_nil_iff]
                intro h hm
                rw [ihm]
                rfl
              · rfl
          exact (hh _ _).symm
        · rw [if_neg hyx]
          have hk1 : look x (y :: env) = some (k + 1) := by simp only [look]; rw [if_neg hyx, hk]; rfl
          simp only [NT.db, holesV]
          cases v <;> try rfl
          rename_i v
          show List.map _ _ ++ _ = List.map _ _ ++ _
          rw [show (Tg.bd k).up = .bd (k + 1) from rfl, (ih a (y :: env) x v hN.2).2 (k + 1) hp hk1, (ih a (y :: env) y v hN.2).2 0 hy h0]
          congr 1
          refine congrArg (fun f => List.flatMap f _) (funext fun q => ?_)
          have := (ih (.loop y a) env x q.2 hN).2 k hp hk
          simp only [NT.db] at this
          rw [this]
/-- Enough fuel is enough. -/
theorem holesV_fuel : ∀ (n : Nat) (t : Ty) (g : Tg) (v : V), v.nodes ≤ n → holesV (n + 1) t g v = holesV n t g v := by
  intro n
  induction n with
  | zero => intro t g v h; have : 1 ≤ v.nodes := by cases v <;> simp only [V.nodes] <;> omega
            omega
  | succ n ih =>
    intro t g v h
    cases t with
    | sum a b =>
      cases v <;> simp only [V.nodes] at h <;> simp only [holesV]
      · rw [ih _ _ _ (by omega)]
      · rw [ih _ _ _ (by omega)]
    | prod a b =>
      cases v <;> simp only [V.nodes] at h <;> simp only [holesV]
      · rw [ih _ _ _ (by omega), ih _ _ _ (by omega)]
    | loop a =>
      by_cases hv : ∃ v', v = .f v'
      case neg => cases v <;> first | rfl | exact absurd ⟨_, rfl⟩ hv
      obtain ⟨v, rfl⟩ := hv
      simp only [V.nodes] at h
      rw [holesV, holesV]
      show List.map _ _ ++ _ = List.map _ _ ++ _
      rw [ih a g.up v (by omega), ih a (.bd 0) v (by omega)]
      congr 1
      rw [List.flatMap_def, List.flatMap_def]
      congr 1
      refine List.map_congr_left fun q hq => ?_
      have := hole_size n a (.bd 0) v q hq
      rw [ih _ _ _ (by omega)]
    | _ => simp only [holesV]
theorem holesV_more {n m : Nat} {t : Ty} {g : Tg} {v : V} (h : v.nodes ≤ n) (hm : n ≤ m) : holesV m t g v = holesV n t g v := by
  induction m with
  | zero => have : n = 0 := by omega
            rw [this]
  | succ m ih =>
    by_cases h2 : n = m + 1
    · rw [h2]
    · rw [holesV_fuel _ _ _ _ (by omega), ih (by omega)]

end Go.Proofs.YtpokompplapkhaaGreatDoor
