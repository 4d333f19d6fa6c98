/- Derivatives, in plain Lean: a relation that leaves the fresh names open, and that it is a function. -/
import Derived.Test.YtpokompplapkhaaGreatDoorMI
namespace Go.Proofs.YtpokompplapkhaaGreatDoor
open Go.RowKit
set_option linter.unusedVariables false
set_option linter.unusedSimpArgs false
def Ty.mapN (f : List UInt8 -> List UInt8) : Ty -> Ty
 | .zero => .zero
 | .one => .one
 | .name s => .name (f s)
 | .bound k => .bound k
 | .sum a b => .sum (a.mapN f) (b.mapN f)
 | .prod a b => .prod (a.mapN f) (b.mapN f)
 | .loop a => .loop (a.mapN f)
theorem mapN_atoms (f : List UInt8 -> List UInt8) : ∀ (t : Ty), (t.mapN f).atoms = t.atoms
 | .zero => rfl
 | .one => rfl
 | .name _ => rfl
 | .bound _ => rfl
 | .sum a b => by simp only [Ty.mapN, Ty.atoms, mapN_atoms f a, mapN_atoms f b]
 | .prod a b => by simp only [Ty.mapN, Ty.atoms, mapN_atoms f a, mapN_atoms f b]
 | .loop a => by simp only [Ty.mapN, Ty.atoms, mapN_atoms f a]
theorem mapN_opened (f : List UInt8 -> List UInt8) (u : Ty) : ∀ (t : Ty) (k : Nat), (t.opened u k).mapN f = (t.mapN f).opened (u.mapN f) k
 | .zero, _ => rfl
 | .one, _ => rfl
 | .name _, _ => rfl
 | .bound j, k => by
  simp only [Ty.opened, Ty.mapN]
  split <;> rfl
 | .sum a b, k => by simp only [Ty.opened, Ty.mapN, mapN_opened f u a, mapN_opened f u b]
 | .prod a b, k => by simp only [Ty.opened, Ty.mapN, mapN_opened f u a, mapN_opened f u b]
 | .loop a, k => by simp only [Ty.opened, Ty.mapN, mapN_opened f u a]
theorem mapN_put {f : List UInt8 -> List UInt8} (hf : ∀ a b, f a = f b -> a = b) (l : List UInt8) (u : Ty) : ∀ (t : Ty), (t.put l u).mapN f = (t.mapN f).put (f l) (u.mapN f)
 | .zero => rfl
 | .one => rfl
 | .bound _ => rfl
 | .name s => by
  simp only [Ty.put, Ty.mapN]
  by_cases h : s = l
  · subst h
    rw [if_pos rfl, if_pos rfl]
  · rw [if_neg h, if_neg (fun h2 => h (hf _ _ h2))]
    rfl
 | .sum a b => by simp only [Ty.put, Ty.mapN, mapN_put hf l u a, mapN_put hf l u b]
 | .prod a b => by simp only [Ty.put, Ty.mapN, mapN_put hf l u a, mapN_put hf l u b]
 | .loop a => by simp only [Ty.put, Ty.mapN, mapN_put hf l u a]
theorem mapN_id {f : List UInt8 -> List UInt8} : ∀ (t : Ty), (∀ s, t.has s -> f s = s) -> t.mapN f = t
 | .zero, _ => rfl
 | .one, _ => rfl
 | .bound _, _ => rfl
 | .name s, h => by simp only [Ty.mapN]; rw [h s rfl]
 | .sum a b, h => by simp only [Ty.mapN]; rw [mapN_id a fun s hs => h s (.inl hs), mapN_id b fun s hs => h s (.inr hs)]
 | .prod a b, h => by simp only [Ty.mapN]; rw [mapN_id a fun s hs => h s (.inl hs), mapN_id b fun s hs => h s (.inr hs)]
 | .loop a, h => by simp only [Ty.mapN]; rw [mapN_id a fun s hs => h s hs]
theorem mapN_has {f : List UInt8 -> List UInt8} (hf : ∀ a b, f a = f b -> a = b) (s : List UInt8) : ∀ (t : Ty), (t.mapN f).has (f s) ↔ t.has s
 | .zero => Iff.rfl
 | .one => Iff.rfl
 | .bound _ => Iff.rfl
 | .name x => ⟨fun h => hf _ _ h, fun h => congrArg f h⟩
 | .sum a b => by simp only [Ty.mapN, Ty.has, mapN_has hf s a, mapN_has hf s b]
 | .prod a b => by simp only [Ty.mapN, Ty.has, mapN_has hf s a, mapN_has hf s b]
 | .loop a => by simp only [Ty.mapN, Ty.has, mapN_has hf s a]
def swp (a b s : List UInt8) : List UInt8 := if s = a then b else if s = b then a else s
theorem swp_inj (a b : List UInt8) : ∀ x y, swp a b x = swp a b y -> x = y := by
 intro x y h
 unfold swp at h
 split at h <;> split at h <;> (try split at h) <;> (try split at h) <;> simp_all
theorem swp_l (a b : List UInt8) : swp a b a = b := by simp [swp]
theorem swp_other {a b s : List UInt8} (h1 : s ≠ a) (h2 : s ≠ b) : swp a b s = s := by simp [swp, h1, h2]
def chkO (o : Option Ty) : Option Ty := o.bind fun t => if t.atoms <= 400 then some t else none
def sumO (oa ob : Option Ty) : Option Ty := oa.bind fun a => ob.bind fun b => some (.sum a b)
def prodO (a b : Ty) (oa ob : Option Ty) : Option Ty := oa.bind fun a' => ob.bind fun b' => some (.sum (.prod a' b) (.prod a b'))
def loopO (l : List UInt8) (T : Ty) (oc od : Option Ty) : Option Ty := oc.bind fun c => od.bind fun d => some (.loop (.sum (c.put l T) (.prod (d.put l T) (.bound 0))))
inductive Der : Ty -> List UInt8 -> Option Ty -> Prop where
 | zero (x) : Der .zero x (some .zero)
 | one (x) : Der .one x (some .zero)
 | bound (k) (x) : Der (.bound k) x (some .zero)
 | hit (x) : Der (.name x) x (some .one)
 | miss (s x) (h : s ≠ x) : Der (.name s) x (some .zero)
 | sum (a b x oa ob) (ha : Der a x oa) (hb : Der b x ob) : Der (.sum a b) x (chkO (sumO oa ob))
 | prod (a b x oa ob) (ha : Der a x oa) (hb : Der b x ob) : Der (.prod a b) x (chkO (prodO a b oa ob))
 | loop (a x l oc od) (hl : l ≠ x) (hla : ¬ a.has l) (hc : Der (a.opened (.name l) 0) x oc) (hd : Der (a.opened (.name l) 0) l od) : Der (.loop a) x (chkO (loopO l (.loop a) oc od))
theorem chkO_map (f : List UInt8 -> List UInt8) (o : Option Ty) : (chkO o).map (Ty.mapN f) = chkO (o.map (Ty.mapN f)) := by
 cases o with
 | none => rfl
 | some t =>
  simp only [chkO, Option.bind_some, Option.map_some, mapN_atoms]
  split <;> rfl
theorem chkO_some {o : Option Ty} {t : Ty} (h : chkO o = some t) : o = some t /\ t.atoms <= 400 := by
 cases o with
 | none => cases h
 | some u =>
  simp only [chkO, Option.bind_some] at h
  split at h
  · rename_i hu
    injection h with h
    subst h
    exact ⟨rfl, hu⟩
  · cases h
theorem Der.map {f : List UInt8 -> List UInt8} (hf : ∀ a b, f a = f b -> a = b) {t : Ty} {x : List UInt8} {o : Option Ty} (h : Der t x o) : Der (t.mapN f) (f x) (o.map (Ty.mapN f)) := by
 induction h with
 | zero x => exact .zero _
 | one x => exact .one _
 | bound k x => exact .bound _ _
 | hit x => exact .hit _
 | miss s x h => exact .miss _ _ fun h2 => h (hf _ _ h2)
 | sum a b x oa ob _ _ iha ihb =>
  rw [chkO_map]
  have := Der.sum _ _ _ _ _ iha ihb
  have he : sumO (oa.map (Ty.mapN f)) (ob.map (Ty.mapN f)) = (sumO oa ob).map (Ty.mapN f) := by cases oa <;> cases ob <;> rfl
  rw [he] at this
  exact this
 | prod a b x oa ob _ _ iha ihb =>
  rw [chkO_map]
  have := Der.prod _ _ _ _ _ iha ihb
  have he : prodO (a.mapN f) (b.mapN f) (oa.map (Ty.mapN f)) (ob.map (Ty.mapN f)) = (prodO a b oa ob).map (Ty.mapN f) := by cases oa <;> cases ob <;> rfl
  rw [he] at this
  exact this
 | loop a x l oc od hl hla _ _ ihc ihd =>
  rw [chkO_map]
  rw [mapN_opened] at ihc ihd
  have := Der.loop (a.mapN f) (f x) (f l) _ _ (fun h => hl (hf _ _ h)) (fun h => hla ((mapN_has hf l a).1 h)) ihc ihd
  have he : loopO (f l) (.loop (a.mapN f)) (oc.map (Ty.mapN f)) (od.map (Ty.mapN f)) = (loopO l (.loop a) oc od).map (Ty.mapN f) := by
   cases oc with
   | none => rfl
   | some c =>
    cases od with
    | none => rfl
    | some d =>
     simp only [loopO, Option.map_some, Option.bind_some, Ty.mapN]
     rw [mapN_put hf, mapN_put hf]
     rfl
  rw [he] at this
  exact this
theorem Der.names {t : Ty} {x : List UInt8} {o : Option Ty} (h : Der t x o) : ∀ d s, o = some d -> d.has s -> t.has s := by
 induction h with
 | zero x => rintro d s h hs; cases h; exact hs
 | one x => rintro d s h hs; cases h; exact hs
 | bound k x => rintro d s h hs; cases h; exact hs
 | hit x => rintro d s h hs; cases h; exact hs.elim
 | miss s x h => rintro d s h hs; cases h; exact hs.elim
 | sum a b x oa ob _ _ iha ihb =>
  intro d s h hs
  obtain ⟨h, _⟩ := chkO_some h
  cases oa with
  | none => cases h
  | some a' =>
   cases ob with
   | none => cases h
   | some b' =>
    cases h
    exact hs.imp (iha a' s rfl) (ihb b' s rfl)
 | prod a b x oa ob _ _ iha ihb =>
  intro d s h hs
  obtain ⟨h, _⟩ := chkO_some h
  cases oa with
  | none => cases h
  | some a' =>
   cases ob with
   | none => cases h
   | some b' =>
    cases h
    rcases hs with (hs | hs) | (hs | hs)
    · exact .inl (iha a' s rfl hs)
    · exact .inr hs
    · exact .inl hs
    · exact .inr (ihb b' s rfl hs)
 | loop a x l oc od hl hla _ _ ihc ihd =>
  intro d s h hs
  obtain ⟨h, _⟩ := chkO_some h
  cases oc with
  | none => cases h
  | some c =>
   cases od with
   | none => cases h
   | some e =>
    cases h
    have key : ∀ (c : Ty), (∀ s, c.has s -> (a.opened (.name l) 0).has s) -> (c.put l (.loop a)).has s -> a.has s := by
     intro c hc hp
     rcases (put_has l s (.loop a) c).1 hp with ⟨h1, h2⟩ | ⟨_, h2⟩
     · rcases (opened_has s (.name l) a 0).2 (hc s h1) with h3 | h3
       · exact h3
       · exact absurd h3.symm h2
     · exact h2
    rcases hs with hs | (hs | hs)
    · exact key c (fun s => ihc c s rfl) hs
    · exact key e (fun s => ihd e s rfl) hs
    · exact hs.elim
theorem opened_name_atoms (l : List UInt8) : ∀ (t : Ty) (k : Nat), (t.opened (.name l) k).atoms = t.atoms
 | .zero, _ => rfl
 | .one, _ => rfl
 | .name _, _ => rfl
 | .bound j, k => by
  simp only [Ty.opened]
  split <;> rfl
 | .sum a b, k => by simp only [Ty.opened, Ty.atoms, opened_name_atoms l a, opened_name_atoms l b]
 | .prod a b, k => by simp only [Ty.opened, Ty.atoms, opened_name_atoms l a, opened_name_atoms l b]
 | .loop a, k => by simp only [Ty.opened, Ty.atoms, opened_name_atoms l a]
theorem Der.func : ∀ (n : Nat) {t : Ty} {x : List UInt8} {o o' : Option Ty}, t.atoms <= n -> Der t x o -> Der t x o' -> o = o'
 | 0, t, _, _, _, hn, _, _ => by
  exfalso
  cases t <;> simp [Ty.atoms] at hn
 | n + 1, t, x, o, o', hn, h, h' => by
  cases h with
  | zero => cases h'; rfl
  | one => cases h'; rfl
  | bound => cases h'; rfl
  | hit =>
   cases h' with
   | hit => rfl
   | miss _ _ h => exact absurd rfl h
  | miss s _ h =>
   cases h' with
   | hit => exact absurd rfl h
   | miss => rfl
  | sum a b _ oa ob ha hb =>
   simp only [Ty.atoms] at hn
   cases h' with
   | sum _ _ _ oa' ob' ha' hb' =>
    rw [Der.func n (by omega) ha ha', Der.func n (by omega) hb hb']
  | prod a b _ oa ob ha hb =>
   simp only [Ty.atoms] at hn
   cases h' with
   | prod _ _ _ oa' ob' ha' hb' =>
    rw [Der.func n (by omega) ha ha', Der.func n (by omega) hb hb']
  | loop a _ l oc od hl hla hc hd =>
   simp only [Ty.atoms] at hn
   cases h' with
   | loop _ _ l' oc' od' hl' hla' hc' hd' =>
    have hfa : a.mapN (swp l l') = a := mapN_id a fun s hs => swp_other (fun h => hla (h ▸ hs)) (fun h => hla' (h ▸ hs))
    have hop : (a.opened (.name l) 0).mapN (swp l l') = a.opened (.name l') 0 := by
     rw [mapN_opened, hfa]
     simp only [Ty.mapN, swp_l]
    have hc2 := hc.map (swp_inj l l')
    have hd2 := hd.map (swp_inj l l')
    rw [hop] at hc2 hd2
    rw [swp_other (fun h => hl h.symm) (fun h => hl' h.symm)] at hc2
    rw [swp_l] at hd2
    have e1 := Der.func n (by rw [opened_name_atoms]; omega) hc2 hc'
    have e2 := Der.func n (by rw [opened_name_atoms]; omega) hd2 hd'
    subst e1
    subst e2
    congr 1
    have key : ∀ (c : Ty), (∀ s, c.has s -> (a.opened (.name l) 0).has s) -> (c.mapN (swp l l')).put l' (.loop a) = c.put l (.loop a) := by
     intro c hcn
     have hT : (Ty.loop a).mapN (swp l l') = .loop a := by simp only [Ty.mapN, hfa]
     have h1 := mapN_put (swp_inj l l') l (.loop a) c
     rw [swp_l, hT] at h1
     rw [<- h1]
     refine mapN_id _ fun s hs => ?_
     rcases (put_has l s (.loop a) c).1 hs with ⟨h2, h3⟩ | ⟨_, h2⟩
     · refine swp_other h3 fun h4 => ?_
       subst h4
       rcases (opened_has s (.name l) a 0).2 (hcn s h2) with h5 | h5
       · exact hla' h5
       · exact h3 h5.symm
     · exact swp_other (fun h => hla (h ▸ h2)) (fun h => hla' (h ▸ h2))
    cases oc with
    | none => cases od <;> rfl
    | some c =>
     cases od with
     | none => rfl
     | some d =>
      simp only [loopO, Option.map_some, Option.bind_some]
      rw [key c fun s => hc.names c s rfl, key d fun s => hd.names d s rfl]
end Go.Proofs.YtpokompplapkhaaGreatDoor

