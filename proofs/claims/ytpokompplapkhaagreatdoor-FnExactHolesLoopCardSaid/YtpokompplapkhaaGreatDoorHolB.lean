/- Bounds on holes: how many there are, how great contexts are. -/
import Derived.Test.YtpokompplapkhaaGreatDoorHolN
import Derived.Test.YtpokompplapkhaaGreatDoorVTxt
namespace Go.Proofs.YtpokompplapkhaaGreatDoor
open Go.RowKit
set_option linter.unusedVariables false
set_option linter.unusedSimpArgs false

def tsum {α : Type} (f : α → Nat) : List α → Nat
  | [] => 0
  | a :: l => f a + tsum f l
theorem tsum_app {α : Type} (f : α → Nat) : ∀ (l m : List α), tsum f (l ++ m) = tsum f l + tsum f m
  | [], m => by simp [tsum]
  | a :: l, m => by simp only [List.cons_append, tsum, tsum_app f l m]; omega
theorem tsum_map {α β : Type} (f : β → Nat) (g : α → β) : ∀ (l : List α), tsum f (l.map g) = tsum (fun a => f (g a)) l
  | [] => rfl
  | a :: l => by simp only [List.map_cons, tsum, tsum_map f g l]
theorem tsum_flat {α β : Type} (f : β → Nat) (g : α → List β) : ∀ (l : List α), tsum f (l.flatMap g) = tsum (fun a => tsum f (g a)) l
  | [] => rfl
  | a :: l => by simp only [List.flatMap_cons, tsum, tsum_app, tsum_flat f g l]
theorem tsum_add {α : Type} (f g : α → Nat) : ∀ (l : List α), tsum (fun a => f a + g a) l = tsum f l + tsum g l
  | [] => rfl
  | a :: l => by simp only [tsum, tsum_add f g l]; omega
theorem tsum_le {α : Type} {f g : α → Nat} : ∀ (l : List α), (∀ a ∈ l, f a ≤ g a) → tsum f l ≤ tsum g l
  | [], _ => Nat.le_refl _
  | a :: l, h => by
    have := h a (List.mem_cons_self ..)
    have := tsum_le l fun b hb => h b (List.mem_cons_of_mem _ hb)
    simp only [tsum]
    omega
theorem tsum_zero {α : Type} : ∀ (l : List α), tsum (fun _ => 0) l = 0
  | [] => rfl
  | a :: l => by simp only [tsum, tsum_zero l]
theorem tsum_swap {α β : Type} (f : α → β → Nat) (m : List β) : ∀ (l : List α), tsum (fun a => tsum (f a) m) l = tsum (fun b => tsum (fun a => f a b) l) m
  | [] => by simp only [tsum]; rw [tsum_zero]
  | a :: l => by simp only [tsum, tsum_swap f m l]; rw [← tsum_add]
theorem tsum_len {α : Type} {f : α → Nat} : ∀ (l : List α), (∀ a ∈ l, 1 ≤ f a) → l.length ≤ tsum f l
  | [], _ => Nat.le_refl _
  | a :: l, h => by
    have := h a (List.mem_cons_self ..)
    have := tsum_len l fun b hb => h b (List.mem_cons_of_mem _ hb)
    simp only [tsum, List.length_cons]
    omega
theorem tsum_one {α : Type} (P : α → Bool) (hP : ∀ a b, P a = true → P b = true → a = b) (m : Nat) : ∀ (l : List α), l.Nodup → tsum (fun a => if P a = true then m else 0) l ≤ m
  | [], _ => Nat.zero_le _
  | a :: l, h => by
    rw [List.nodup_cons] at h
    simp only [tsum]
    split
    · rename_i ha
      have : tsum (fun a => if P a = true then m else 0) l ≤ tsum (fun _ => 0) l := tsum_le l fun b hb => by
        split
        · rename_i hb'
          exact absurd hb (by rw [hP b a hb' ha]; exact h.1)
        · exact Nat.le_refl _
      rw [tsum_zero] at this
      omega
    · have := tsum_one P hP m l h.2
      omega
/-- What is left out of holes, in all. -/
def hsum (l : List (V × V)) : Nat := tsum (fun h => h.2.nodes) l
theorem hsum_map (F : V × V → V) (l : List (V × V)) : hsum (l.map fun h => (F h, h.2)) = hsum l := by unfold hsum; rw [tsum_map]
theorem hsum_app (l m : List (V × V)) : hsum (l ++ m) = hsum l + hsum m := tsum_app _ _ _
theorem up_inj {g h : Tg} (e : g.up = h.up) : g = h := by
  cases g <;> cases h <;> simp only [Tg.up, Tg.nm.injEq, Tg.bd.injEq, reduceCtorEq] at e ⊢ <;> first | exact e | omega
theorem up_nodup : ∀ (gs : List Tg), gs.Nodup → (gs.map Tg.up).Nodup
  | [], _ => by simp
  | g :: gs, h => by
    rw [List.nodup_cons] at h
    rw [List.map_cons, List.nodup_cons]
    refine ⟨fun hm => ?_, up_nodup gs h.2⟩
    obtain ⟨g', hg', he⟩ := List.mem_map.1 hm
    exact h.1 (by rw [← up_inj he]; exact hg')
theorem at_one (t : Ty) (g h : Tg) (hg : g.at t = true) (hh : h.at t = true) : g = h := by
  cases t <;> cases g <;> cases h <;> simp_all [Tg.at]
theorem holes_sum : ∀ (n : Nat) (t : Ty) (gs : List Tg) (v : V), gs.Nodup → tsum (fun g => hsum (holesV n t g v)) gs ≤ v.nodes := by
  intro n
  induction n with
  | zero =>
    intro t gs v _
    have : tsum (fun g => hsum (holesV 0 t g v)) gs = tsum (fun _ => 0) gs := by congr 1
    rw [this, tsum_zero]
    exact Nat.zero_le _
  | succ n ih =>
    intro t gs v hn
    have hzero : ∀ (f : Tg → Nat), (∀ g, f g = 0) → tsum f gs ≤ v.nodes := fun f hf => by
      rw [show f = fun _ => 0 from funext hf, tsum_zero]
      exact Nat.zero_le _
    have hleaf : (∀ g, holesV (n + 1) t g v = if g.at t then [(.u, v)] else []) → tsum (fun g => hsum (holesV (n + 1) t g v)) gs ≤ v.nodes := fun h => by
      have : (fun g => hsum (holesV (n + 1) t g v)) = fun g => if Tg.at g t = true then v.nodes else 0 := funext fun g => by
        rw [h]
        split
        · simp [hsum, tsum]
        · rfl
      rw [this]
      exact tsum_one (fun g => g.at t) (at_one t) _ gs hn
    cases t with
    | zero => exact hleaf fun g => by simp only [holesV]
    | one => exact hleaf fun g => by simp only [holesV]
    | name s => exact hleaf fun g => by simp only [holesV]
    | bound k => exact hleaf fun g => by simp only [holesV]
    | sum a b =>
      cases v with
      | l v =>
        have := ih a gs v hn
        have he : (fun g => hsum (holesV (n + 1) (.sum a b) g (.l v))) = fun g => hsum (holesV n a g v) := funext fun g => by
          simp only [holesV]
          exact hsum_map (fun h => .l h.1) _
        rw [he]
        simp only [V.nodes]; omega
      | r v =>
        have := ih b gs v hn
        have he : (fun g => hsum (holesV (n + 1) (.sum a b) g (.r v))) = fun g => hsum (holesV n b g v) := funext fun g => by
          simp only [holesV]
          exact hsum_map (fun h => .r h.1) _
        rw [he]
        simp only [V.nodes]; omega
      | _ => exact hzero _ fun g => by simp only [holesV]; rfl
    | prod a b =>
      cases v with
      | p v w =>
        have h1 := ih a gs v hn
        have h2 := ih b gs w hn
        have he : (fun g => hsum (holesV (n + 1) (.prod a b) g (.p v w))) = fun g => hsum (holesV n a g v) + hsum (holesV n b g w) := funext fun g => by
          simp only [holesV]
          rw [hsum_app, hsum_map (fun h => V.l (.p h.1 w)), hsum_map (fun h => V.r (.p v h.1))]
        rw [he, tsum_add]
        simp only [V.nodes]; omega
      | _ => exact hzero _ fun g => by simp only [holesV]; rfl
    | loop a =>
      by_cases hvf : ∃ v', v = .f v'
      case neg => exact hzero _ fun g => by cases v <;> first | rfl | exact absurd ⟨_, rfl⟩ hvf
      obtain ⟨v, rfl⟩ := hvf
      · have h1 := ih a (gs.map Tg.up ++ [.bd 0]) v (by
          rw [List.nodup_append]
          refine ⟨up_nodup gs hn, by simp, fun x hx y hy => ?_⟩
          obtain ⟨g, _, rfl⟩ := List.mem_map.1 hx
          rw [List.mem_singleton] at hy
          subst hy
          cases g <;> simp [Tg.up])
        rw [tsum_app, tsum_map] at h1
        have he : (fun g => hsum (holesV (n + 1) (.loop a) g (.f v))) = fun g => hsum (holesV n a g.up v) + tsum (fun k => hsum (holesV n (.loop a) g k.2)) (holesV n a (.bd 0) v) := funext fun g => by
          rw [holesV]
          show hsum (_ ++ _) = _
          rw [hsum_app, hsum_map (fun h => V.f (.l h.1))]
          congr 1
          unfold hsum
          rw [tsum_flat]
          congr 1
          funext k
          exact hsum_map (fun h => V.f (.r (.p k.1 h.1))) _
        rw [he, tsum_add, tsum_swap]
        have h2 : tsum (fun k : V × V => tsum (fun g => hsum (holesV n (.loop a) g k.2)) gs) (holesV n a (.bd 0) v) ≤ hsum (holesV n a (.bd 0) v) := tsum_le _ fun k _ => ih (.loop a) gs k.2 hn
        simp only [tsum] at h1
        simp only [V.nodes]
        omega
theorem holes_len (n : Nat) (t : Ty) (g : Tg) (v : V) : (holesV n t g v).length ≤ v.nodes := by
  have h1 := holes_sum n t [g] v (by simp)
  simp only [tsum] at h1
  have h2 : (holesV n t g v).length ≤ hsum (holesV n t g v) := tsum_len _ fun h _ => V.pos h.2
  omega
/-- How great a context is. -/
theorem hole_ctx : ∀ (n : Nat) (t : Ty) (g : Tg) (v : V), ∀ h ∈ holesV n t g v, h.1.nodes + 4 * h.2.nodes ≤ 4 * v.nodes + 1 := by
  intro n
  induction n with
  | zero => intro t g v h hm; cases hm
  | succ n ih =>
    intro t g v h hm
    have hleaf : h ∈ (if g.at t then [(V.u, v)] else []) → h.1.nodes + 4 * h.2.nodes ≤ 4 * v.nodes + 1 := fun hm => by
      split at hm
      · rw [List.mem_singleton] at hm; subst hm; simp only [V.nodes]; omega
      · cases hm
    cases t with
    | sum a b =>
      simp only [holesV] at hm
      split at hm
      · obtain ⟨h', hm', rfl⟩ := List.mem_map.1 hm
        have := ih _ _ _ _ hm'
        simp only [V.nodes]; omega
      · obtain ⟨h', hm', rfl⟩ := List.mem_map.1 hm
        have := ih _ _ _ _ hm'
        simp only [V.nodes]; omega
      · cases hm
    | prod a b =>
      simp only [holesV] at hm
      split at hm
      · rcases List.mem_append.1 hm with hm | hm
        · obtain ⟨h', hm', rfl⟩ := List.mem_map.1 hm
          have := ih _ _ _ _ hm'
          simp only [V.nodes]; omega
        · obtain ⟨h', hm', rfl⟩ := List.mem_map.1 hm
          have := ih _ _ _ _ hm'
          simp only [V.nodes]; omega
      · cases hm
    | loop a =>
      simp only [holesV] at hm
      split at hm
      · rcases List.mem_append.1 hm with hm | hm
        · obtain ⟨h', hm', rfl⟩ := List.mem_map.1 hm
          have := ih _ _ _ _ hm'
          simp only [V.nodes]; omega
        · obtain ⟨k, hk, hm⟩ := List.mem_flatMap.1 hm
          obtain ⟨h', hm', rfl⟩ := List.mem_map.1 hm
          have h1 := ih _ _ _ _ hk
          have h2 := ih _ _ _ _ hm'
          simp only [V.nodes]; omega
      · cases hm
    | zero => simp only [holesV] at hm; exact hleaf hm
    | one => simp only [holesV] at hm; exact hleaf hm
    | name s => simp only [holesV] at hm; exact hleaf hm
    | bound s => simp only [holesV] at hm; exact hleaf hm
theorem hole_ok : ∀ (n : Nat) (t : Ty) (g : Tg) (v : V), v.ok → ∀ h ∈ holesV n t g v, h.1.ok ∧ h.2.ok := by
  intro n
  induction n with
  | zero => intro t g v hv h hm; cases hm
  | succ n ih =>
    intro t g v hv h hm
    have hleaf : h ∈ (if g.at t then [(V.u, v)] else []) → h.1.ok ∧ h.2.ok := fun hm => by
      split at hm
      · rw [List.mem_singleton] at hm; subst hm; exact ⟨trivial, hv⟩
      · cases hm
    cases t with
    | sum a b =>
      simp only [holesV] at hm
      split at hm
      · obtain ⟨h', hm', rfl⟩ := List.mem_map.1 hm
        have h9 := ih _ _ _ (by exact hv) _ hm'
        exact h9
      · obtain ⟨h', hm', rfl⟩ := List.mem_map.1 hm
        have h9 := ih _ _ _ (by exact hv) _ hm'
        exact h9
      · cases hm
    | prod a b =>
      simp only [holesV] at hm
      split at hm
      · rcases List.mem_append.1 hm with hm | hm
        · obtain ⟨h', hm', rfl⟩ := List.mem_map.1 hm
          have := ih _ _ _ hv.1 _ hm'
          exact ⟨⟨this.1, hv.2⟩, this.2⟩
        · obtain ⟨h', hm', rfl⟩ := List.mem_map.1 hm
          have := ih _ _ _ hv.2 _ hm'
          exact ⟨⟨hv.1, this.1⟩, this.2⟩
      · cases hm
    | loop a =>
      simp only [holesV] at hm
      split at hm
      · rcases List.mem_append.1 hm with hm | hm
        · obtain ⟨h', hm', rfl⟩ := List.mem_map.1 hm
          have h9 := ih _ _ _ (by exact hv) _ hm'
          exact h9
        · obtain ⟨k, hk, hm⟩ := List.mem_flatMap.1 hm
          obtain ⟨h', hm', rfl⟩ := List.mem_map.1 hm
          have h1 := ih _ _ _ (by exact hv) _ hk
          have h2 := ih _ _ _ h1.2 _ hm'
          exact ⟨⟨h1.1, h2.1⟩, h2.2⟩
      · cases hm
    | zero => simp only [holesV] at hm; exact hleaf hm
    | one => simp only [holesV] at hm; exact hleaf hm
    | name s => simp only [holesV] at hm; exact hleaf hm
    | bound s => simp only [holesV] at hm; exact hleaf hm
/-- The same for names. -/
theorem holesN_as (n : Nat) (N : NT) (x : List UInt8) (v : V) (hN : N.ok3) : ∃ t g, holesN n N x v = holesV n t g v := by
  cases hp : paramB x with
  | true => exact ⟨_, _, (holesN_db n N [] x v hN).1 hp⟩
  | false => exact ⟨_, _, (holesN_db n N [x] x v hN).2 0 hp (by simp [look])⟩
theorem holesN_len (n : Nat) (N : NT) (x : List UInt8) (v : V) (hN : N.ok3) : (holesN n N x v).length ≤ v.nodes := by
  obtain ⟨t, g, h⟩ := holesN_as n N x v hN
  rw [h]
  exact holes_len n t g v
theorem plug_nodes : ∀ (c : V) (t : Ty) (e : V), (plugV c t e).nodes ≤ c.nodes + e.nodes := by
  intro c t e
  fun_induction plugV c t e <;> (try simp only [V.nodes] at *) <;> omega
theorem plug_ok : ∀ (c : V) (t : Ty) (e : V), c.ok → e.ok → (plugV c t e).ok := by
  intro c t e
  fun_induction plugV c t e <;> intro hc he <;> (try simp only [V.ok] at *) <;> simp_all

end Go.Proofs.YtpokompplapkhaaGreatDoor
