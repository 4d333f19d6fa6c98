/- Contexts are the values of the derivative, in plain Lean. -/
import Derived.Test.YtpokompplapkhaaGreatDoorMem
namespace Go.Proofs.YtpokompplapkhaaGreatDoor
open Go.RowKit
set_option linter.unusedVariables false
set_option linter.unusedSimpArgs false

/-- What a rec's derivative is made of. -/
theorem rec_facts {a : Ty} {l : List UInt8} (hs : (Ty.loop a).scoped 0) (hla : ¬ a.has l) (ρ : List UInt8 → V → Bool) :
    (∀ v : V, v.ofR (rhoP ρ l (.loop a)) [] (a.opened (.name l) 0) = v.ofR ρ [.loop a] a) ∧ (∀ (y : V) (c D : Ty), c.scoped 0 → y.ofR ρ [D] (c.put l (.loop a)) = y.ofR (rhoP ρ l (.loop a)) [] c) := by
  refine ⟨fun v => ofR_opened ρ l a hs v [] a hs ⟨⟨a, rfl, hs⟩, trivial⟩ hla (by simp), fun y c D hc => ?_⟩
  have h1 := ofR_app ρ y [] [D] (c.put l (.loop a)) (put_scoped l _ hs c 0 hc) trivial
  have h2 := ofR_put ρ l (.loop a) hs y [] c hc trivial
  exact h1.trans h2
/-- A context plugged with what the name stands for is a value of the type. -/
theorem plug_der {t : Ty} {x : List UInt8} {o : Option Ty} (h : Der t x o) : t.scoped 0 → ∀ d, o = some d → ∀ (ρ : List UInt8 → V → Bool) (c e : V), c.ofR ρ [] d = true → ρ x e = true → (plugV c t e).ofR ρ [] t = true := by
  induction h with
  | zero x => intro _ d h ρ c e hc _; cases h; cases c <;> cases hc
  | one x => intro _ d h ρ c e hc _; cases h; cases c <;> cases hc
  | bound k x => intro _ d h ρ c e hc _; cases h; cases c <;> cases hc
  | hit x =>
    intro _ d h ρ c e hc he
    cases h
    cases c <;> first
      | cases hc; done
      | (show V.ofR ρ e [] (.name x) = true
         cases e <;> exact he)
  | miss s x h => intro _ d h ρ c e hc _; cases h; cases c <;> cases hc
  | sum a b x oa ob _ _ iha ihb =>
    intro hs d h ρ c e hc he
    obtain ⟨h, _⟩ := chkO_some h
    cases oa with
    | none => cases h
    | some a' =>
      cases ob with
      | none => cases h
      | some b' =>
        cases h
        cases c with
        | l c => exact iha hs.1 a' rfl ρ c e hc he
        | r c => exact ihb hs.2 b' rfl ρ c e hc he
        | _ => cases hc
  | prod a b x oa ob _ _ iha ihb =>
    intro hs d h ρ c e hc he
    obtain ⟨h, _⟩ := chkO_some h
    cases oa with
    | none => cases h
    | some a' =>
      cases ob with
      | none => cases h
      | some b' =>
        cases h
        cases c with
        | l c =>
          cases c with
          | p y z =>
            simp only [V.ofR, Bool.and_eq_true] at hc
            simp only [plugV, V.ofR, Bool.and_eq_true]
            exact ⟨iha hs.1 a' rfl ρ y e hc.1 he, hc.2⟩
          | _ => cases hc
        | r c =>
          cases c with
          | p y z =>
            simp only [V.ofR, Bool.and_eq_true] at hc
            simp only [plugV, V.ofR, Bool.and_eq_true]
            exact ⟨hc.1, ihb hs.2 b' rfl ρ z e hc.2 he⟩
          | _ => cases hc
        | _ => cases hc
  | loop a x l oc od hl hla hc0 hd0 ihc ihd =>
    intro hs d h ρ
    obtain ⟨h, _⟩ := chkO_some h
    have hop := opened_scoped (.name l) trivial a 0 hs
    obtain ⟨f1, f2⟩ := rec_facts hs hla ρ
    cases oc with
    | none => cases h
    | some c' =>
      cases od with
      | none => cases h
      | some d' =>
        cases h
        have sc := hc0.scoped hop c' rfl
        have sd := hd0.scoped hop d' rfl
        have key : ∀ (m : Nat) (c e : V), c.nodes ≤ m → c.ofR ρ [] (.loop (.sum (c'.put l (.loop a)) (.prod (d'.put l (.loop a)) (.bound 0)))) = true → ρ x e = true → (plugV c (.loop a) e).ofR ρ [] (.loop a) = true := by
          intro m
          induction m with
          | zero => intro c e hm; cases c <;> simp [V.nodes] at hm
          | succ m ih =>
            intro c e hm hc he
            cases c with
            | f c =>
              cases c with
              | l y =>
                have hy : y.ofR ρ [.loop (.sum (c'.put l (.loop a)) (.prod (d'.put l (.loop a)) (.bound 0)))] (c'.put l (.loop a)) = true := hc
                rw [f2 y c' _ sc] at hy
                have := ihc hop c' rfl (rhoP ρ l (.loop a)) y e hy (by simp only [rhoP]; rw [if_neg (fun h => hl h.symm)]; exact he)
                rw [plug_opened, f1] at this
                exact this
              | r c =>
                cases c with
                | p y z =>
                  simp only [V.ofR, Bool.and_eq_true] at hc
                  obtain ⟨hy, hz⟩ := hc
                  rw [f2 y d' _ sd] at hy
                  simp only [V.nodes] at hm
                  have hz2 : z.ofR ρ [] (.loop (.sum (c'.put l (.loop a)) (.prod (d'.put l (.loop a)) (.bound 0)))) = true := by
                    cases z with
                    | f z => exact hz
                    | _ => cases hz
                  have hk := ih z e (by omega) hz2 he
                  have := ihd hop d' rfl (rhoP ρ l (.loop a)) y (plugV z (.loop a) e) hy (by simp only [rhoP, if_true]; exact hk)
                  rw [plug_opened, f1] at this
                  exact this
                | _ => cases hc
              | _ => cases hc
            | _ => cases hc
        exact fun c e hc he => key c.nodes c e (Nat.le_refl _) hc he
/-- The holes of a value of the type: contexts of the derivative, with what the name stands for. -/
theorem hole_der {t : Ty} {x : List UInt8} {o : Option Ty} (h : Der t x o) : t.scoped 0 → ∀ d, o = some d → ∀ (ρ : List UInt8 → V → Bool) (n : Nat) (v : V), v.ofR ρ [] t = true → ∀ p ∈ holesV n t (.nm x) v, p.1.ofR ρ [] d = true ∧ ρ x p.2 = true := by
  have leafno : ∀ (n : Nat) (t : Ty) (g : Tg) (v : V), (∀ a b, t ≠ .sum a b) → (∀ a b, t ≠ .prod a b) → (∀ a, t ≠ .loop a) → g.at t = false → ∀ p ∈ holesV n t g v, False := by
    intro n t g v h1 h2 h3 hg p hp
    cases n with
    | zero => cases hp
    | succ n =>
      cases t <;> first
        | exact absurd rfl (h1 _ _)
        | exact absurd rfl (h2 _ _)
        | exact absurd rfl (h3 _)
        | (simp only [holesV] at hp
           rw [hg] at hp
           cases hp)
  induction h with
  | zero x => intro _ d h ρ n v hv p hp; exact (leafno n _ _ v (by simp) (by simp) (by simp) rfl p hp).elim
  | one x => intro _ d h ρ n v hv p hp; exact (leafno n _ _ v (by simp) (by simp) (by simp) rfl p hp).elim
  | bound k x => intro _ d h ρ n v hv p hp; exact (leafno n _ _ v (by simp) (by simp) (by simp) rfl p hp).elim
  | hit x =>
    intro _ d h ρ n v hv p hp
    cases h
    cases n with
    | zero => cases hp
    | succ n =>
      simp only [holesV, Tg.at] at hp
      rw [if_pos (by simp)] at hp
      rw [List.mem_singleton] at hp
      subst hp
      refine ⟨rfl, ?_⟩
      cases v <;> exact hv
  | miss s x h => intro _ d h' ρ n v hv p hp; exact (leafno n _ _ v (by simp) (by simp) (by simp) (by simp [Tg.at, h]) p hp).elim
  | sum a b x oa ob _ _ iha ihb =>
    intro hs d h ρ n v hv p hp
    obtain ⟨h, _⟩ := chkO_some h
    cases oa with
    | none => cases h
    | some a' =>
      cases ob with
      | none => cases h
      | some b' =>
        cases h
        cases n with
        | zero => cases hp
        | succ n =>
          simp only [holesV] at hp
          cases v with
          | l v =>
            obtain ⟨q, hq, rfl⟩ := List.mem_map.1 hp
            exact iha hs.1 a' rfl ρ n v hv q hq
          | r v =>
            obtain ⟨q, hq, rfl⟩ := List.mem_map.1 hp
            exact ihb hs.2 b' rfl ρ n v hv q hq
          | _ => cases hp
  | prod a b x oa ob _ _ iha ihb =>
    intro hs d h ρ n v hv p hp
    obtain ⟨h, _⟩ := chkO_some h
    cases oa with
    | none => cases h
    | some a' =>
      cases ob with
      | none => cases h
      | some b' =>
        cases h
        cases n with
        | zero => cases hp
        | succ n =>
          simp only [holesV] at hp
          cases v with
          | p v w =>
            simp only [V.ofR, Bool.and_eq_true] at hv
            rcases List.mem_append.1 hp with hp | hp
            · obtain ⟨q, hq, rfl⟩ := List.mem_map.1 hp
              have := iha hs.1 a' rfl ρ n v hv.1 q hq
              simp only [V.ofR, Bool.and_eq_true]
              exact ⟨⟨this.1, hv.2⟩, this.2⟩
            · obtain ⟨q, hq, rfl⟩ := List.mem_map.1 hp
              have := ihb hs.2 b' rfl ρ n w hv.2 q hq
              simp only [V.ofR, Bool.and_eq_true]
              exact ⟨⟨hv.1, this.1⟩, this.2⟩
          | _ => cases hp
  | loop a x l oc od hl hla hc0 hd0 ihc ihd =>
    intro hs d h ρ
    obtain ⟨h, _⟩ := chkO_some h
    have hop := opened_scoped (.name l) trivial a 0 hs
    obtain ⟨f1, f2⟩ := rec_facts hs hla ρ
    cases oc with
    | none => cases h
    | some c' =>
      cases od with
      | none => cases h
      | some d' =>
        cases h
        have sc := hc0.scoped hop c' rfl
        have sd := hd0.scoped hop d' rfl
        intro n
        induction n with
        | zero => intro v hv p hp; cases hp
        | succ n ih =>
          intro v hv p hp
          simp only [holesV, Tg.up] at hp
          cases v with
          | f v =>
            have hv1 : v.ofR ρ [.loop a] a = true := hv
            rw [← f1] at hv1
            have ho := fun n v => holes_opened l n a 0 v hla hs
            rcases List.mem_append.1 hp with hp | hp
            · obtain ⟨q, hq, rfl⟩ := List.mem_map.1 hp
              rw [← (ho n v).2.1 x (fun h => hl h.symm)] at hq
              have := ihc hop c' rfl (rhoP ρ l (.loop a)) n v hv1 q hq
              refine ⟨?_, ?_⟩
              · show q.1.ofR ρ [_] (c'.put l (.loop a)) = true
                rw [f2 q.1 c' _ sc]
                exact this.1
              · have h2 := this.2
                simp only [rhoP] at h2
                rw [if_neg (fun h => hl h.symm)] at h2
                exact h2
            · obtain ⟨k, hk, hp⟩ := List.mem_flatMap.1 hp
              obtain ⟨q, hq, rfl⟩ := List.mem_map.1 hp
              rw [← (ho n v).1] at hk
              have h1 := ihd hop d' rfl (rhoP ρ l (.loop a)) n v hv1 k hk
              have h2 := h1.2
              simp only [rhoP, if_true] at h2
              have h3 := ih k.2 h2 q hq
              refine ⟨?_, h3.2⟩
              show (k.1.ofR ρ [_] (d'.put l (.loop a)) && q.1.ofR ρ [_] (.bound 0)) = true
              rw [f2 k.1 d' _ sd, h1.1, Bool.true_and]
              have h4 := h3.1
              generalize q.1 = z at h4 ⊢
              cases z with
              | f z => exact h4
              | _ => cases h4
          | _ => cases hp
/-- An empty type has no values. -/
theorem emp_none (ρ : List UInt8 → V → Bool) : ∀ (v : V) (env : List Ty) (t : Ty), t.emp = true → (∀ k a r, env.drop k = .loop a :: r → a.emp = true) → v.ofR ρ env t = false := by
  have hname : ∀ (v : V) (env : List Ty) (s : List UInt8), (Ty.name s).emp = true → v.ofR ρ env (.name s) = false := fun v env s h => by cases h
  intro v
  induction v with
  | u => intro env t ht he; cases t <;> first | rfl | cases ht
  | el s => intro env t ht he; cases t <;> first | rfl | cases ht
  | l v ih =>
    intro env t ht he
    cases t with
    | sum a b => simp only [Ty.emp, Bool.and_eq_true] at ht; exact ih env a ht.1 he
    | name s => cases ht
    | _ => rfl
  | r v ih =>
    intro env t ht he
    cases t with
    | sum a b => simp only [Ty.emp, Bool.and_eq_true] at ht; exact ih env b ht.2 he
    | name s => cases ht
    | _ => rfl
  | p v w ih ih2 =>
    intro env t ht he
    cases t with
    | prod a b =>
      simp only [Ty.emp, Bool.or_eq_true] at ht
      simp only [V.ofR]
      rcases ht with ht | ht
      · rw [ih env a ht he, Bool.false_and]
      · rw [ih2 env b ht he, Bool.and_false]
    | name s => cases ht
    | _ => rfl
  | f v ih =>
    intro env t ht he
    cases t with
    | loop a =>
      have ha : a.emp = true := ht
      exact ih (.loop a :: env) a ha fun k a' r hd => by
        cases k with
        | zero => simp only [List.drop_zero, List.cons.injEq, Ty.loop.injEq] at hd; rw [← hd.1]; exact ha
        | succ k => exact he k a' r hd
    | bound k =>
      simp only [V.ofR]
      cases hd : env.drop k with
      | nil => rfl
      | cons X r =>
        cases X with
        | loop a =>
          exact ih (.loop a :: r) a (he k a r hd) fun j a' r' hj => he (k + j) a' r' (by rw [← List.drop_drop, hd]; exact hj)
        | _ => rfl
    | name s => cases ht
    | _ => rfl

end Go.Proofs.YtpokompplapkhaaGreatDoor
