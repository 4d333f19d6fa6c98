/- Holes and plugging, in plain Lean. Holes for names, over named types; and what is missed for a bound name that is hidden. Bounds on holes: how many there are, how great contexts are. -/
import Derived.Test.YtpokompplapkhaaGreatDoorNB
import Derived.Test.YtpokompplapkhaaGreatDoorDerP
namespace Go.Proofs.YtpokompplapkhaaGreatDoor
open Go.RowKit
set_option linter.unusedVariables false
set_option linter.unusedSimpArgs false
inductive Tg where
 | nm (x : List UInt8)
 | bd (k : Nat)
def Tg.up : Tg -> Tg
 | .nm x => .nm x
 | .bd k => .bd (k + 1)
def Tg.at : Tg -> Ty -> Bool
 | .nm x, .name s => decide (s = x)
 | .bd k, .bound j => decide (j = k)
 | _, _ => false
def holesV : Nat -> Ty -> Tg -> V -> List (V × V)
 | 0, _, _, _ => []
 | n + 1, .sum a b, g, v => match v with
  | .l v => (holesV n a g v).map fun h => (.l h.1, h.2)
  | .r v => (holesV n b g v).map fun h => (.r h.1, h.2)
  | _ => []
 | n + 1, .prod a b, g, v => match v with
  | .p v w => ((holesV n a g v).map fun h => (V.l (.p h.1 w), h.2)) ++ (holesV n b g w).map fun h => (V.r (.p v h.1), h.2)
  | _ => []
 | n + 1, .loop a, g, v => match v with
  | .f v => ((holesV n a g.up v).map fun h => (V.f (.l h.1), h.2)) ++ (holesV n a (.bd 0) v).flatMap fun k => (holesV n (.loop a) g k.2).map fun h => (V.f (.r (.p k.1 h.1)), h.2)
  | _ => []
 | n + 1, t, g, v => if g.at t then [(.u, v)] else []
theorem hole_size : ∀ (n : Nat) (t : Ty) (g : Tg) (v : V), ∀ h ∈ holesV n t g v, h.2.nodes <= v.nodes := by
 intro n
 induction n with
 | zero => intro t g v h hm; cases hm
 | succ n ih =>
  intro t g v h hm
  cases t with
  | sum a b =>
   simp only [holesV] at hm
   split at hm
   · obtain ⟨h', hm', rfl⟩ := List.mem_map.1 hm
     have := ih _ _ _ _ hm'
     simp only [V.nodes]; omega
   · obtain ⟨h', hm', rfl⟩ := List.mem_map.1 hm
     have := ih _ _ _ _ hm'
     simp only [V.nodes]; omega
   · cases hm
  | prod a b =>
   simp only [holesV] at hm
   split at hm
   · rcases List.mem_append.1 hm with hm | hm
     · obtain ⟨h', hm', rfl⟩ := List.mem_map.1 hm
       have := ih _ _ _ _ hm'
       simp only [V.nodes]; omega
     · obtain ⟨h', hm', rfl⟩ := List.mem_map.1 hm
       have := ih _ _ _ _ hm'
       simp only [V.nodes]; omega
   · cases hm
  | loop a =>
   simp only [holesV] at hm
   split at hm
   · rcases List.mem_append.1 hm with hm | hm
     · obtain ⟨h', hm', rfl⟩ := List.mem_map.1 hm
       have := ih _ _ _ _ hm'
       simp only [V.nodes]; omega
     · obtain ⟨k, hk, hm⟩ := List.mem_flatMap.1 hm
       obtain ⟨h', hm', rfl⟩ := List.mem_map.1 hm
       have h1 := ih _ _ _ _ hk
       have h2 := ih _ _ _ _ hm'
       simp only [V.nodes]; omega
   · cases hm
  | zero =>
   simp only [holesV] at hm
   split at hm
   · rw [List.mem_singleton] at hm; subst hm; exact Nat.le_refl _
   · cases hm
  | one =>
   simp only [holesV] at hm
   split at hm
   · rw [List.mem_singleton] at hm; subst hm; exact Nat.le_refl _
   · cases hm
  | name s =>
   simp only [holesV] at hm
   split at hm
   · rw [List.mem_singleton] at hm; subst hm; exact Nat.le_refl _
   · cases hm
  | bound s =>
   simp only [holesV] at hm
   split at hm
   · rw [List.mem_singleton] at hm; subst hm; exact Nat.le_refl _
   · cases hm
end Go.Proofs.YtpokompplapkhaaGreatDoor
namespace Go.Proofs.YtpokompplapkhaaGreatDoor
open Go.RowKit
set_option linter.unusedVariables false
set_option linter.unusedSimpArgs false
def holesN : Nat -> NT -> List UInt8 -> V -> List (V × V)
 | 0, _, _, _ => []
 | n + 1, .sum a b, x, v => match v with
  | .l v => (holesN n a x v).map fun h => (.l h.1, h.2)
  | .r v => (holesN n b x v).map fun h => (.r h.1, h.2)
  | _ => []
 | n + 1, .prod a b, x, v => match v with
  | .p v w => ((holesN n a x v).map fun h => (V.l (.p h.1 w), h.2)) ++ (holesN n b x w).map fun h => (V.r (.p v h.1), h.2)
  | _ => []
 | n + 1, .loop y a, x, v => if y = x then [] else match v with
  | .f v => ((holesN n a x v).map fun h => (V.f (.l h.1), h.2)) ++ (holesN n a y v).flatMap fun k => (holesN n (.loop y a) x k.2).map fun h => (V.f (.r (.p k.1 h.1)), h.2)
  | _ => []
 | n + 1, .name s, x, v => if s = x then [(.u, v)] else []
 | _ + 1, _, _, _ => []
theorem look_inj {s x : List UInt8} {k : Nat} : ∀ (env : List (List UInt8)), look s env = some k -> look x env = some k -> s = x := by
 intro env
 induction env generalizing k with
 | nil => intro h; cases h
 | cons e es ih =>
  intro h1 h2
  simp only [look] at h1 h2
  split at h1
  · rename_i he
    cases h1
    split at h2
    · rename_i he2
      exact he.symm.trans he2
    · cases hq : look x es with
      | none => rw [hq] at h2; cases h2
      | some q => rw [hq] at h2; cases h2
  · split at h2
    · cases h2
      cases hq : look s es with
      | none => rw [hq] at h1; cases h1
      | some q => rw [hq] at h1; cases h1
    · cases hq : look x es with
      | none => rw [hq] at h2; cases h2
      | some q =>
       cases hq2 : look s es with
       | none => rw [hq2] at h1; cases h1
       | some q2 =>
        rw [hq] at h2
        rw [hq2] at h1
        have e1 : q2 + 1 = k := Option.some.inj h1
        have e2 : q + 1 = k := Option.some.inj h2
        have : q2 = q := by omega
        subst this
        exact ih hq2 hq
theorem holesV_name (n : Nat) (s : List UInt8) (g : Tg) (v : V) : holesV (n + 1) (.name s) g v = if g.at (.name s) then [(.u, v)] else [] := by simp only [holesV]
theorem holesV_bound (n : Nat) (k : Nat) (g : Tg) (v : V) : holesV (n + 1) (.bound k) g v = if g.at (.bound k) then [(.u, v)] else [] := by simp only [holesV]
theorem holes_hidden : ∀ (n : Nat) (N : NT) (env : List (List UInt8)) (k : Nat) (v : V), (∀ s, look s env ≠ some k) -> holesV n (N.db env) (.bd k) v = [] := by
 intro n
 induction n with
 | zero => intros; rfl
 | succ n ih =>
  intro N env k v hk
  cases N with
  | zero => simp [NT.db, holesV, Tg.at]
  | one => simp [NT.db, holesV, Tg.at]
  | name s =>
   simp only [NT.db]
   split
   · simp [holesV, Tg.at]
   · cases hl : look s env with
     | none => simp [holesV, Tg.at]
     | some j =>
      show holesV (n + 1) (.bound j) _ _ = _
      rw [holesV_bound]
      have : j ≠ k := by rintro rfl; exact hk s hl
      simp [Tg.at, this]
  | sum a b =>
   simp only [NT.db, holesV]
   split
   · rw [ih _ _ _ _ hk]; rfl
   · rw [ih _ _ _ _ hk]; rfl
   · rfl
  | prod a b =>
   simp only [NT.db, holesV]
   split
   · rw [ih _ _ _ _ hk, ih _ _ _ _ hk]; rfl
   · rfl
  | loop y a =>
   have h2 : ∀ s, look s (y :: env) ≠ some (k + 1) := fun s h => by
    simp only [look] at h
    split at h
    · cases h
    · cases hq : look s env with
      | none => rw [hq] at h; cases h
      | some q =>
       rw [hq] at h
       have : q + 1 = k + 1 := Option.some.inj h
       exact hk s (by rw [hq]; congr 1; omega)
   simp only [NT.db, holesV]
   split
   · rw [show (Tg.bd k).up = .bd (k + 1) from rfl, ih _ _ _ _ h2]
     simp only [List.map_nil, List.nil_append, List.flatMap_eq_nil_iff]
     intro h hm
     have := ih (.loop y a) env k h.2 hk
     simp only [NT.db] at this
     rw [this]
     rfl
   · rfl
theorem holesN_db : ∀ (n : Nat) (N : NT) (env : List (List UInt8)) (x : List UInt8) (v : V), N.ok3 ->
 (paramB x = true -> holesN n N x v = holesV n (N.db env) (.nm x) v) /\ (∀ k, paramB x = false -> look x env = some k -> holesN n N x v = holesV n (N.db env) (.bd k) v) := by
 intro n
 induction n with
 | zero => intros; exact ⟨fun _ => rfl, fun _ _ _ => rfl⟩
 | succ n ih =>
  intro N env x v hN
  cases N with
  | zero => exact ⟨fun _ => by simp [holesN, NT.db, holesV, Tg.at], fun _ _ _ => by simp [holesN, NT.db, holesV, Tg.at]⟩
  | one => exact ⟨fun _ => by simp [holesN, NT.db, holesV, Tg.at], fun _ _ _ => by simp [holesN, NT.db, holesV, Tg.at]⟩
  | name s =>
   constructor
   · intro hp
     simp only [holesN, NT.db]
     by_cases hs : paramB s = true
     · rw [if_pos hs, holesV_name]
       simp [Tg.at]
     · have hne : s ≠ x := by rintro rfl; exact hs hp
       rw [if_neg hs, if_neg hne]
       cases hl : look s env with
       | none => rw [holesV_name]; simp [Tg.at, hne]
       | some j => rw [holesV_bound]; simp [Tg.at]
   · intro k hp hk
     simp only [holesN, NT.db]
     by_cases hs : paramB s = true
     · have hne : s ≠ x := by rintro rfl; rw [hp] at hs; cases hs
       rw [if_pos hs, if_neg hne, holesV_name]
       simp [Tg.at]
     · rw [if_neg hs]
       cases hl : look s env with
       | none =>
        have hne : s ≠ x := by rintro rfl; rw [hk] at hl; cases hl
        rw [if_neg hne, holesV_name]
        simp [Tg.at]
       | some j =>
        rw [holesV_bound]
        by_cases hsx : s = x
        · subst hsx
          rw [hk] at hl
          cases hl
          simp [Tg.at]
        · rw [if_neg hsx]
          have : j ≠ k := by rintro rfl; exact hsx (look_inj env hl hk)
          simp [Tg.at, this]
  | sum a b =>
   refine ⟨fun hp => ?_, fun k hp hk => ?_⟩ <;> cases v <;> simp only [holesN, NT.db, holesV]
   · rw [(ih a env x _ hN.1).1 hp]
   · rw [(ih b env x _ hN.2).1 hp]
   · rw [(ih a env x _ hN.1).2 k hp hk]
   · rw [(ih b env x _ hN.2).2 k hp hk]
  | prod a b =>
   refine ⟨fun hp => ?_, fun k hp hk => ?_⟩ <;> cases v <;> simp only [holesN, NT.db, holesV]
   · rw [(ih a env x _ hN.1).1 hp, (ih b env x _ hN.2).1 hp]
   · rw [(ih a env x _ hN.1).2 k hp hk, (ih b env x _ hN.2).2 k hp hk]
  | loop y a =>
   have hy : paramB y = false := hN.1.2
   have h0 : look y (y :: env) = some 0 := by simp [look]
   constructor
   · intro hp
     have hne : y ≠ x := by rintro rfl; rw [hp] at hy; cases hy
     simp only [holesN, NT.db, holesV]
     rw [if_neg hne]
     cases v <;> try rfl
     rename_i v
     show List.map _ _ ++ _ = List.map _ _ ++ _
     rw [(ih a (y :: env) x v hN.2).1 hp, (ih a (y :: env) y v hN.2).2 0 hy h0]
     congr 1
     refine congrArg (fun f => List.flatMap f _) (funext fun q => ?_)
     have := (ih (.loop y a) env x q.2 hN).1 hp
     simp only [NT.db] at this
     rw [this]
   · intro k hp hk
     simp only [holesN]
     by_cases hyx : y = x
     · subst hyx
       rw [if_pos rfl]
       have h2 : ∀ s, look s (y :: env) ≠ some (k + 1) := fun s h => by
        simp only [look] at h
        split at h
        · cases h
        · rename_i hys
          cases hq : look s env with
          | none => rw [hq] at h; cases h
          | some q =>
           rw [hq] at h
           have e : q + 1 = k + 1 := Option.some.inj h
           have e : q = k := by omega
           subst e
           exact hys (look_inj env hk hq)
       have hh : ∀ m v, holesV m (Ty.loop (a.db (y :: env))) (.bd k) v = [] := by
        intro m
        induction m with
        | zero => intro v; rfl
        | succ m ihm =>
         intro v
         simp only [holesV]
         split
         · rw [show (Tg.bd k).up = .bd (k + 1) from rfl, holes_hidden _ _ _ _ _ h2]
           simp only [List.map_nil, List.nil_append, List.flatMap_eq_nil_iff]
           intro h hm
           rw [ihm]
           rfl
         · rfl
       exact (hh _ _).symm
     · rw [if_neg hyx]
       have hk1 : look x (y :: env) = some (k + 1) := by simp only [look]; rw [if_neg hyx, hk]; rfl
       simp only [NT.db, holesV]
       cases v <;> try rfl
       rename_i v
       show List.map _ _ ++ _ = List.map _ _ ++ _
       rw [show (Tg.bd k).up = .bd (k + 1) from rfl, (ih a (y :: env) x v hN.2).2 (k + 1) hp hk1, (ih a (y :: env) y v hN.2).2 0 hy h0]
       congr 1
       refine congrArg (fun f => List.flatMap f _) (funext fun q => ?_)
       have := (ih (.loop y a) env x q.2 hN).2 k hp hk
       simp only [NT.db] at this
       rw [this]
theorem holesV_fuel : ∀ (n : Nat) (t : Ty) (g : Tg) (v : V), v.nodes <= n -> holesV (n + 1) t g v = holesV n t g v := by
 intro n
 induction n with
 | zero => intro t g v h; have : 1 <= v.nodes := by cases v <;> simp only [V.nodes] <;> omega
           omega
 | succ n ih =>
  intro t g v h
  cases t with
  | sum a b =>
   cases v <;> simp only [V.nodes] at h <;> simp only [holesV]
   · rw [ih _ _ _ (by omega)]
   · rw [ih _ _ _ (by omega)]
  | prod a b =>
   cases v <;> simp only [V.nodes] at h <;> simp only [holesV]
   · rw [ih _ _ _ (by omega), ih _ _ _ (by omega)]
  | loop a =>
   by_cases hv : ∃ v', v = .f v'
   case neg => cases v <;> first | rfl | exact absurd ⟨_, rfl⟩ hv
   obtain ⟨v, rfl⟩ := hv
   simp only [V.nodes] at h
   rw [holesV, holesV]
   show List.map _ _ ++ _ = List.map _ _ ++ _
   rw [ih a g.up v (by omega), ih a (.bd 0) v (by omega)]
   congr 1
   rw [List.flatMap_def, List.flatMap_def]
   congr 1
   refine List.map_congr_left fun q hq => ?_
   have := hole_size n a (.bd 0) v q hq
   rw [ih _ _ _ (by omega)]
  | _ => simp only [holesV]
theorem holesV_more {n m : Nat} {t : Ty} {g : Tg} {v : V} (h : v.nodes <= n) (hm : n <= m) : holesV m t g v = holesV n t g v := by
 induction m with
 | zero => have : n = 0 := by omega
           rw [this]
 | succ m ih =>
  by_cases h2 : n = m + 1
  · rw [h2]
  · rw [holesV_fuel _ _ _ _ (by omega), ih (by omega)]
end Go.Proofs.YtpokompplapkhaaGreatDoor
namespace Go.Proofs.YtpokompplapkhaaGreatDoor
open Go.RowKit
set_option linter.unusedVariables false
set_option linter.unusedSimpArgs false
def tsum {α : Type} (f : α -> Nat) : List α -> Nat
 | [] => 0
 | a :: l => f a + tsum f l
theorem tsum_app {α : Type} (f : α -> Nat) : ∀ (l m : List α), tsum f (l ++ m) = tsum f l + tsum f m
 | [], m => by simp [tsum]
 | a :: l, m => by simp only [List.cons_append, tsum, tsum_app f l m]; omega
theorem tsum_map {α β : Type} (f : β -> Nat) (g : α -> β) : ∀ (l : List α), tsum f (l.map g) = tsum (fun a => f (g a)) l
 | [] => rfl
 | a :: l => by simp only [List.map_cons, tsum, tsum_map f g l]
theorem tsum_flat {α β : Type} (f : β -> Nat) (g : α -> List β) : ∀ (l : List α), tsum f (l.flatMap g) = tsum (fun a => tsum f (g a)) l
 | [] => rfl
 | a :: l => by simp only [List.flatMap_cons, tsum, tsum_app, tsum_flat f g l]
theorem tsum_add {α : Type} (f g : α -> Nat) : ∀ (l : List α), tsum (fun a => f a + g a) l = tsum f l + tsum g l
 | [] => rfl
 | a :: l => by simp only [tsum, tsum_add f g l]; omega
theorem tsum_le {α : Type} {f g : α -> Nat} : ∀ (l : List α), (∀ a ∈ l, f a <= g a) -> tsum f l <= tsum g l
 | [], _ => Nat.le_refl _
 | a :: l, h => by
  have := h a (List.mem_cons_self ..)
  have := tsum_le l fun b hb => h b (List.mem_cons_of_mem _ hb)
  simp only [tsum]
  omega
theorem tsum_zero {α : Type} : ∀ (l : List α), tsum (fun _ => 0) l = 0
 | [] => rfl
 | a :: l => by simp only [tsum, tsum_zero l]
theorem tsum_swap {α β : Type} (f : α -> β -> Nat) (m : List β) : ∀ (l : List α), tsum (fun a => tsum (f a) m) l = tsum (fun b => tsum (fun a => f a b) l) m
 | [] => by simp only [tsum]; rw [tsum_zero]
 | a :: l => by simp only [tsum, tsum_swap f m l]; rw [<- tsum_add]
theorem tsum_len {α : Type} {f : α -> Nat} : ∀ (l : List α), (∀ a ∈ l, 1 <= f a) -> l.length <= tsum f l
 | [], _ => Nat.le_refl _
 | a :: l, h => by
  have := h a (List.mem_cons_self ..)
  have := tsum_len l fun b hb => h b (List.mem_cons_of_mem _ hb)
  simp only [tsum, List.length_cons]
  omega
theorem tsum_one {α : Type} (P : α -> Bool) (hP : ∀ a b, P a = true -> P b = true -> a = b) (m : Nat) : ∀ (l : List α), l.Nodup -> tsum (fun a => if P a = true then m else 0) l <= m
 | [], _ => Nat.zero_le _
 | a :: l, h => by
  rw [List.nodup_cons] at h
  simp only [tsum]
  split
  · rename_i ha
    have : tsum (fun a => if P a = true then m else 0) l <= tsum (fun _ => 0) l := tsum_le l fun b hb => by
     split
     · rename_i hb'
       exact absurd hb (by rw [hP b a hb' ha]; exact h.1)
     · exact Nat.le_refl _
    rw [tsum_zero] at this
    omega
  · have := tsum_one P hP m l h.2
    omega
def hsum (l : List (V × V)) : Nat := tsum (fun h => h.2.nodes) l
theorem hsum_map (F : V × V -> V) (l : List (V × V)) : hsum (l.map fun h => (F h, h.2)) = hsum l := by unfold hsum; rw [tsum_map]
theorem hsum_app (l m : List (V × V)) : hsum (l ++ m) = hsum l + hsum m := tsum_app _ _ _
theorem up_inj {g h : Tg} (e : g.up = h.up) : g = h := by
 cases g <;> cases h <;> simp only [Tg.up, Tg.nm.injEq, Tg.bd.injEq, reduceCtorEq] at e ⊢ <;> first | exact e | omega
theorem up_nodup : ∀ (gs : List Tg), gs.Nodup -> (gs.map Tg.up).Nodup
 | [], _ => by simp
 | g :: gs, h => by
  rw [List.nodup_cons] at h
  rw [List.map_cons, List.nodup_cons]
  refine ⟨fun hm => ?_, up_nodup gs h.2⟩
  obtain ⟨g', hg', he⟩ := List.mem_map.1 hm
  exact h.1 (by rw [<- up_inj he]; exact hg')
theorem at_one (t : Ty) (g h : Tg) (hg : g.at t = true) (hh : h.at t = true) : g = h := by
 cases t <;> cases g <;> cases h <;> simp_all [Tg.at]
theorem holes_sum : ∀ (n : Nat) (t : Ty) (gs : List Tg) (v : V), gs.Nodup -> tsum (fun g => hsum (holesV n t g v)) gs <= v.nodes := by
 intro n
 induction n with
 | zero =>
  intro t gs v _
  have : tsum (fun g => hsum (holesV 0 t g v)) gs = tsum (fun _ => 0) gs := by congr 1
  rw [this, tsum_zero]
  exact Nat.zero_le _
 | succ n ih =>
  intro t gs v hn
  have hzero : ∀ (f : Tg -> Nat), (∀ g, f g = 0) -> tsum f gs <= v.nodes := fun f hf => by
   rw [show f = fun _ => 0 from funext hf, tsum_zero]
   exact Nat.zero_le _
  have hleaf : (∀ g, holesV (n + 1) t g v = if g.at t then [(.u, v)] else []) -> tsum (fun g => hsum (holesV (n + 1) t g v)) gs <= v.nodes := fun h => by
   have : (fun g => hsum (holesV (n + 1) t g v)) = fun g => if Tg.at g t = true then v.nodes else 0 := funext fun g => by
    rw [h]
    split
    · simp [hsum, tsum]
    · rfl
   rw [this]
   exact tsum_one (fun g => g.at t) (at_one t) _ gs hn
  cases t with
  | zero => exact hleaf fun g => by simp only [holesV]
  | one => exact hleaf fun g => by simp only [holesV]
  | name s => exact hleaf fun g => by simp only [holesV]
  | bound k => exact hleaf fun g => by simp only [holesV]
  | sum a b =>
   cases v with
   | l v =>
    have := ih a gs v hn
    have he : (fun g => hsum (holesV (n + 1) (.sum a b) g (.l v))) = fun g => hsum (holesV n a g v) := funext fun g => by
     simp only [holesV]
     exact hsum_map (fun h => .l h.1) _
    rw [he]
    simp only [V.nodes]; omega
   | r v =>
    have := ih b gs v hn
    have he : (fun g => hsum (holesV (n + 1) (.sum a b) g (.r v))) = fun g => hsum (holesV n b g v) := funext fun g => by
     simp only [holesV]
     exact hsum_map (fun h => .r h.1) _
    rw [he]
    simp only [V.nodes]; omega
   | _ => exact hzero _ fun g => by simp only [holesV]; rfl
  | prod a b =>
   cases v with
   | p v w =>
    have h1 := ih a gs v hn
    have h2 := ih b gs w hn
    have he : (fun g => hsum (holesV (n + 1) (.prod a b) g (.p v w))) = fun g => hsum (holesV n a g v) + hsum (holesV n b g w) := funext fun g => by
     simp only [holesV]
     rw [hsum_app, hsum_map (fun h => V.l (.p h.1 w)), hsum_map (fun h => V.r (.p v h.1))]
    rw [he, tsum_add]
    simp only [V.nodes]; omega
   | _ => exact hzero _ fun g => by simp only [holesV]; rfl
  | loop a =>
   by_cases hvf : ∃ v', v = .f v'
   case neg => exact hzero _ fun g => by cases v <;> first | rfl | exact absurd ⟨_, rfl⟩ hvf
   obtain ⟨v, rfl⟩ := hvf
   · have h1 := ih a (gs.map Tg.up ++ [.bd 0]) v (by
      rw [List.nodup_append]
      refine ⟨up_nodup gs hn, by simp, fun x hx y hy => ?_⟩
      obtain ⟨g, _, rfl⟩ := List.mem_map.1 hx
      rw [List.mem_singleton] at hy
      subst hy
      cases g <;> simp [Tg.up])
     rw [tsum_app, tsum_map] at h1
     have he : (fun g => hsum (holesV (n + 1) (.loop a) g (.f v))) = fun g => hsum (holesV n a g.up v) + tsum (fun k => hsum (holesV n (.loop a) g k.2)) (holesV n a (.bd 0) v) := funext fun g => by
      rw [holesV]
      show hsum (_ ++ _) = _
      rw [hsum_app, hsum_map (fun h => V.f (.l h.1))]
      congr 1
      unfold hsum
      rw [tsum_flat]
      congr 1
      funext k
      exact hsum_map (fun h => V.f (.r (.p k.1 h.1))) _
     rw [he, tsum_add, tsum_swap]
     have h2 : tsum (fun k : V × V => tsum (fun g => hsum (holesV n (.loop a) g k.2)) gs) (holesV n a (.bd 0) v) <= hsum (holesV n a (.bd 0) v) := tsum_le _ fun k _ => ih (.loop a) gs k.2 hn
     simp only [tsum] at h1
     simp only [V.nodes]
     omega
theorem holes_len (n : Nat) (t : Ty) (g : Tg) (v : V) : (holesV n t g v).length <= v.nodes := by
 have h1 := holes_sum n t [g] v (by simp)
 simp only [tsum] at h1
 have h2 : (holesV n t g v).length <= hsum (holesV n t g v) := tsum_len _ fun h _ => V.pos h.2
 omega
theorem hole_ctx : ∀ (n : Nat) (t : Ty) (g : Tg) (v : V), ∀ h ∈ holesV n t g v, h.1.nodes + 4 * h.2.nodes <= 4 * v.nodes + 1 := by
 intro n
 induction n with
 | zero => intro t g v h hm; cases hm
 | succ n ih =>
  intro t g v h hm
  have hleaf : h ∈ (if g.at t then [(V.u, v)] else []) -> h.1.nodes + 4 * h.2.nodes <= 4 * v.nodes + 1 := fun hm => by
   split at hm
   · rw [List.mem_singleton] at hm; subst hm; simp only [V.nodes]; omega
   · cases hm
  cases t with
  | sum a b =>
   simp only [holesV] at hm
   split at hm
   · obtain ⟨h', hm', rfl⟩ := List.mem_map.1 hm
     have := ih _ _ _ _ hm'
     simp only [V.nodes]; omega
   · obtain ⟨h', hm', rfl⟩ := List.mem_map.1 hm
     have := ih _ _ _ _ hm'
     simp only [V.nodes]; omega
   · cases hm
  | prod a b =>
   simp only [holesV] at hm
   split at hm
   · rcases List.mem_append.1 hm with hm | hm
     · obtain ⟨h', hm', rfl⟩ := List.mem_map.1 hm
       have := ih _ _ _ _ hm'
       simp only [V.nodes]; omega
     · obtain ⟨h', hm', rfl⟩ := List.mem_map.1 hm
       have := ih _ _ _ _ hm'
       simp only [V.nodes]; omega
   · cases hm
  | loop a =>
   simp only [holesV] at hm
   split at hm
   · rcases List.mem_append.1 hm with hm | hm
     · obtain ⟨h', hm', rfl⟩ := List.mem_map.1 hm
       have := ih _ _ _ _ hm'
       simp only [V.nodes]; omega
     · obtain ⟨k, hk, hm⟩ := List.mem_flatMap.1 hm
       obtain ⟨h', hm', rfl⟩ := List.mem_map.1 hm
       have h1 := ih _ _ _ _ hk
       have h2 := ih _ _ _ _ hm'
       simp only [V.nodes]; omega
   · cases hm
  | zero => simp only [holesV] at hm; exact hleaf hm
  | one => simp only [holesV] at hm; exact hleaf hm
  | name s => simp only [holesV] at hm; exact hleaf hm
  | bound s => simp only [holesV] at hm; exact hleaf hm
theorem hole_ok : ∀ (n : Nat) (t : Ty) (g : Tg) (v : V), v.ok -> ∀ h ∈ holesV n t g v, h.1.ok /\ h.2.ok := by
 intro n
 induction n with
 | zero => intro t g v hv h hm; cases hm
 | succ n ih =>
  intro t g v hv h hm
  have hleaf : h ∈ (if g.at t then [(V.u, v)] else []) -> h.1.ok /\ h.2.ok := fun hm => by
   split at hm
   · rw [List.mem_singleton] at hm; subst hm; exact ⟨trivial, hv⟩
   · cases hm
  cases t with
  | sum a b =>
   simp only [holesV] at hm
   split at hm
   · obtain ⟨h', hm', rfl⟩ := List.mem_map.1 hm
     have h9 := ih _ _ _ (by exact hv) _ hm'
     exact h9
   · obtain ⟨h', hm', rfl⟩ := List.mem_map.1 hm
     have h9 := ih _ _ _ (by exact hv) _ hm'
     exact h9
   · cases hm
  | prod a b =>
   simp only [holesV] at hm
   split at hm
   · rcases List.mem_append.1 hm with hm | hm
     · obtain ⟨h', hm', rfl⟩ := List.mem_map.1 hm
       have := ih _ _ _ hv.1 _ hm'
       exact ⟨⟨this.1, hv.2⟩, this.2⟩
     · obtain ⟨h', hm', rfl⟩ := List.mem_map.1 hm
       have := ih _ _ _ hv.2 _ hm'
       exact ⟨⟨hv.1, this.1⟩, this.2⟩
   · cases hm
  | loop a =>
   simp only [holesV] at hm
   split at hm
   · rcases List.mem_append.1 hm with hm | hm
     · obtain ⟨h', hm', rfl⟩ := List.mem_map.1 hm
       have h9 := ih _ _ _ (by exact hv) _ hm'
       exact h9
     · obtain ⟨k, hk, hm⟩ := List.mem_flatMap.1 hm
       obtain ⟨h', hm', rfl⟩ := List.mem_map.1 hm
       have h1 := ih _ _ _ (by exact hv) _ hk
       have h2 := ih _ _ _ h1.2 _ hm'
       exact ⟨⟨h1.1, h2.1⟩, h2.2⟩
   · cases hm
  | zero => simp only [holesV] at hm; exact hleaf hm
  | one => simp only [holesV] at hm; exact hleaf hm
  | name s => simp only [holesV] at hm; exact hleaf hm
  | bound s => simp only [holesV] at hm; exact hleaf hm
theorem holesN_as (n : Nat) (N : NT) (x : List UInt8) (v : V) (hN : N.ok3) : ∃ t g, holesN n N x v = holesV n t g v := by
 cases hp : paramB x with
 | true => exact ⟨_, _, (holesN_db n N [] x v hN).1 hp⟩
 | false => exact ⟨_, _, (holesN_db n N [x] x v hN).2 0 hp (by simp [look])⟩
theorem holesN_len (n : Nat) (N : NT) (x : List UInt8) (v : V) (hN : N.ok3) : (holesN n N x v).length <= v.nodes := by
 obtain ⟨t, g, h⟩ := holesN_as n N x v hN
 rw [h]
 exact holes_len n t g v
end Go.Proofs.YtpokompplapkhaaGreatDoor

