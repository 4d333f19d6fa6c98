/- The reference's loop types of loop names: []l2Env, l2Enter, l2Find. -/
import Derived.Test.YtpokompplapkhaaGreatDoorRow4
import Derived.Test.YtpokompplapkhaaGreatDoorMG
import Derived.Test.YtpokompplapkhaaGreatDoorNB
namespace Go.Proofs.YtpokompplapkhaaGreatDoor
open Go.RowKit
set_option linter.unusedVariables false
set_option linter.unusedSimpArgs false
def EnvAt (w : World) : List (List UInt8 × NT) -> Option Addr -> Prop
 | [], _ => True
 | e :: rest, A => ∃ g cs fr P n c A' c', A = some ⟨g, 0, none⟩ /\ w.heap[g]? = some (.cells cs 208 fr) /\ cs[4 * rest.length]? = some (.string (St e.1)) /\ cs[4 * rest.length + 1]? = some (.string (St e.2.toTr.atom)) /\ cs[4 * rest.length + 2]? = some (.slice P n c) /\ cs[4 * rest.length + 3]? = some (.slice A' rest.length c') /\ TAt w (fun _ => True) e.2.toTr (.agg #[.string (St e.2.toTr.atom), .slice P n c]) /\ EnvAt w rest A' /\ EnvAt w rest A
theorem EnvAt.keep {w w1 : World} (h1 : Keeps 59 w w1) (h2 : Keeps 208 w w1) : ∀ {env : List (List UInt8 × NT)} {A : Option Addr}, EnvAt w env A -> EnvAt w1 env A
 | [], _, _ => trivial
 | _ :: _, _, ⟨g, cs, fr, P, n, c, A', c', hA, hb, k0, k1, k2, k3, ht, h4, h5⟩ => ⟨g, cs, fr, P, n, c, A', c', hA, h2 _ _ _ hb, k0, k1, k2, k3, ht.keep h1, EnvAt.keep h1 h2 h4, EnvAt.keep h1 h2 h5⟩
theorem EnvAt.up {w w1 : World} (hb : Below w.heap.size w w1) {env : List (List UInt8 × NT)} {A : Option Addr} (h : EnvAt w env A) : EnvAt w1 env A := h.keep (.up hb) (.up hb)
theorem EnvAt.copy {w : World} : ∀ {env : List (List UInt8 × NT)} {g g2 : Nat} {cs cs2 : Array Value} {fr fr2 : Nat × Nat}, w.heap[g]? = some (.cells cs 208 fr) -> EnvAt w env (some ⟨g, 0, none⟩) -> w.heap[g2]? = some (.cells cs2 208 fr2) -> (∀ j, j < 4 * env.length -> cs2[j]? = cs[j]?) -> EnvAt w env (some ⟨g2, 0, none⟩)
 | [], _, _, _, _, _, _, _, _, _, _ => trivial
 | e :: rest, g, g2, cs, cs2, fr, fr2, hb, ⟨g', cs', fr', P, n, c, A', c', hA, hb', k0, k1, k2, k3, ht, h4, h5⟩, hb2, hc => by
  cases hA
  rw [hb] at hb'
  cases hb'
  simp only [List.length_cons] at hc
  refine ⟨g2, cs2, fr2, P, n, c, A', c', rfl, hb2, ?_, ?_, ?_, ?_, ht, h4, EnvAt.copy hb h5 hb2 fun j hj => hc j (by omega)⟩
  · rw [hc _ (by omega), k0]
  · rw [hc _ (by omega), k1]
  · rw [hc _ (by omega), k2]
  · rw [hc _ (by omega), k3]
theorem EnvAt.ones {w : World} : ∀ {env : List (List UInt8 × NT)} {g : Nat} {cs : Array Value} {fr : Nat × Nat}, w.heap[g]? = some (.cells cs 208 fr) -> EnvAt w env (some ⟨g, 0, none⟩) -> ∀ j, j < 4 * env.length -> ∃ u, cs[j]? = some u /\ u.oneCell' = true
 | [], _, _, _, _, _, j, hj => by simp at hj
 | e :: rest, g, cs, fr, hb, ⟨g', cs', fr', P, n, c, A', c', hA, hb', k0, k1, k2, k3, ht, h4, h5⟩, j, hj => by
  cases hA
  rw [hb] at hb'
  cases hb'
  simp only [List.length_cons] at hj
  by_cases h : j < 4 * rest.length
  · exact EnvAt.ones hb h5 j h
  · have hj4 : j = 4 * rest.length \/ j = 4 * rest.length + 1 \/ j = 4 * rest.length + 2 \/ j = 4 * rest.length + 3 := by omega
    rcases hj4 with rfl | rfl | rfl | rfl
    · exact ⟨_, k0, rfl⟩
    · exact ⟨_, k1, rfl⟩
    · exact ⟨_, k2, rfl⟩
    · exact ⟨_, k3, rfl⟩
theorem EnvAt.vals {w : World} {env : List (List UInt8 × NT)} {A : Option Addr} (h : EnvAt w env A) :
 ∃ news : List Value, news.length = env.length * 4 /\ RCells w A news /\ (∀ u ∈ news, u.oneCell' = true) /\
  ∀ (w1 : World) (g2 : Nat) (cs2 : Array Value) (fr2 : Nat × Nat), Below w.heap.size w w1 -> w1.heap[g2]? = some (.cells cs2 208 fr2) -> (∀ (j : Nat) (u : Value), news[j]? = some u -> cs2[j]? = some u) -> EnvAt w1 env (some ⟨g2, 0, none⟩) := by
 cases env with
 | nil => exact ⟨[], rfl, .inl rfl, fun u hu => (by cases hu), fun _ _ _ _ _ _ _ => trivial⟩
 | cons e rest =>
  obtain ⟨g, cs, fr, P, n, c, A', c', hA, hb, k0, k1, k2, k3, ht, h4, h5⟩ := id h
  subst hA
  have hones := EnvAt.ones hb h
  have hsz : 4 * (e :: rest).length <= cs.size := by
   obtain ⟨u, hu, _⟩ := hones (4 * (e :: rest).length - 1) (by simp; omega)
   have := (Array.getElem?_eq_some_iff.1 hu).1
   simp at this ⊢
   omega
  have hget : ∀ j, j < 4 * (e :: rest).length -> (cs.toList.take (4 * (e :: rest).length))[j]? = cs[j]? := fun j hj => by
   rw [List.getElem?_take, if_pos hj, Array.getElem?_toList]
  refine ⟨cs.toList.take (4 * (e :: rest).length), by rw [List.length_take, Array.length_toList (xs := cs)]; omega, .inr ⟨g, 0, rfl, fun j u hu => ?_⟩, fun u hu => ?_, fun w1 g2 cs2 fr2 hb1 hb2 hc => ?_⟩
  · have hj : j < 4 * (e :: rest).length := by
     have := (List.getElem?_eq_some_iff.1 hu).1
     rw [List.length_take] at this
     omega
    rw [block_cell hb, Nat.zero_add, <- hget j hj]
    exact hu
  · obtain ⟨j, hj⟩ := List.getElem?_of_mem hu
    have hj' : j < 4 * (e :: rest).length := by
     have := (List.getElem?_eq_some_iff.1 hj).1
     rw [List.length_take] at this
     omega
    obtain ⟨u', hu', ho⟩ := hones j hj'
    rw [hget j hj', hu'] at hj
    cases hj
    exact ho
  · refine EnvAt.copy (block_up hb1 hb) (h.up hb1) hb2 fun j hj => ?_
    obtain ⟨u, hu, _⟩ := hones j hj
    rw [hu]
    exact hc j u (by rw [hget j hj]; exact hu)
def EnvB : List (List UInt8 × NT) -> Prop
 | [] => True
 | e :: r => (∃ a, e.2 = .loop e.1 a) /\ e.2.ok3 /\ r.length + e.2.atoms <= 100000 /\ EnvB r
theorem EnvB.ok : ∀ {env : List (List UInt8 × NT)}, EnvB env -> EnvOk env
 | [], _ => trivial
 | e :: r, ⟨⟨a, ha⟩, h2, _, h4⟩ => ⟨⟨a, ha⟩, by rw [ha] at h2; exact h2.1.2, EnvB.ok h4⟩
theorem EnvB.cons {env : List (List UInt8 × NT)} {x : List UInt8} {a : NT} (h : EnvB env) (ho : (NT.loop x a).ok3) (hl : env.length + (NT.loop x a).atoms <= 100000) : EnvB ((x, .loop x a) :: env) := ⟨⟨a, rfl⟩, ho, hl, h⟩
theorem EnvB.names : ∀ {env : List (List UInt8 × NT)}, EnvB env -> ∀ e ∈ env, nmOk e.1
 | e :: r, ⟨⟨a, ha⟩, h2, _, h4⟩, e', hm => by
  rcases List.mem_cons.1 hm with rfl | hm
  · rw [ha] at h2; exact h2.1.1
  · exact EnvB.names h4 e' hm
theorem lookN_none {s : List UInt8} : ∀ {env : List (List UInt8 × NT)}, (∀ e ∈ env, e.1 ≠ s) -> lookN s env = none
 | [], _ => rfl
 | e :: r, h => by
  simp only [lookN]
  rw [if_neg (h e (List.mem_cons_self ..))]
  exact lookN_none fun e' hm => h e' (List.mem_cons_of_mem _ hm)
theorem lookN_B {s : List UInt8} : ∀ {env : List (List UInt8 × NT)}, EnvB env -> ∀ {L : NT} {r : List (List UInt8 × NT)}, lookN s env = some (L, r) -> ∃ a r', L = .loop s a /\ r = (s, L) :: r' /\ L.ok3 /\ r'.length + L.atoms <= 100000 /\ EnvB r'
 | [], _, L, r, h => by cases h
 | e :: es, ⟨⟨a, ha⟩, h2, h3, h4⟩, L, r, h => by
  simp only [lookN] at h
  split at h
  · rename_i he
    cases h
    refine ⟨a, es, by rw [ha, he], ?_, h2, h3, h4⟩
    rw [<- he]
  · exact lookN_B h4 h
def fnd (env : List (List UInt8 × NT)) : NT -> NT × List (List UInt8 × NT)
 | .name s => match lookN s env with
  | some (L, _ :: r) => (L, r)
  | _ => (.name s, env)
 | t => (t, env)
theorem fnd_spec {env : List (List UInt8 × NT)} (hB : EnvB env) (t : NT) (ht : t.ok3) (hl : env.length + t.atoms <= 100000) :
 EnvB (fnd env t).2 /\ (fnd env t).1.ok3 /\ (fnd env t).2.length + (fnd env t).1.atoms <= 100000 /\ (∀ s, (fnd env t).1 = .name s -> lookN s (fnd env t).2 = none) /\
  (∀ (n : Int) (v : V), v.isOfN n env t = v.isOfN n (fnd env t).2 (fnd env t).1) := by
 cases t with
 | name s =>
  cases hq : lookN s env with
  | none =>
   have hf : fnd env (.name s) = (.name s, env) := by simp only [fnd, hq]
   rw [hf]
   exact ⟨hB, ht, hl, fun s' h => (by cases h; exact hq), fun _ _ => rfl⟩
  | some q =>
   obtain ⟨L, r⟩ := q
   obtain ⟨a, r', hL, rfl, h1, h2, h3⟩ := lookN_B hB hq
   have hf : fnd env (.name s) = (L, r') := by simp only [fnd, hq]
   rw [hf]
   subst hL
   refine ⟨h3, h1, h2, fun s' h => (by cases h), fun n v => ?_⟩
   cases v <;> simp only [V.isOfN, hq]
 | _ => exact ⟨hB, ht, hl, fun s' h => (by cases h), fun _ _ => rfl⟩
theorem fnd_name {env : List (List UInt8 × NT)} {s : List UInt8} (h : lookN s env = none) : fnd env (.name s) = (.name s, env) := by simp only [fnd, h]
theorem look_atom {env : List (List UInt8 × NT)} (hB : EnvB env) (t : NT) (ht : t.ok3) : (lookN t.toTr.atom env = none /\ fnd env t = (t, env)) \/ ∃ L e r, lookN t.toTr.atom env = some (L, e :: r) /\ fnd env t = (L, r) := by
 have hn := hB.names
 cases t with
 | name s =>
  cases hq : lookN s env with
  | none => exact .inl ⟨hq, fnd_name hq⟩
  | some q =>
   obtain ⟨L, r⟩ := q
   obtain ⟨a, r', hL, rfl, _⟩ := lookN_B hB hq
   exact .inr ⟨L, _, r', hq, by simp only [fnd, hq]⟩
 | zero => exact .inl ⟨lookN_none fun e hm => (hn e hm).2.1, rfl⟩
 | one => exact .inl ⟨lookN_none fun e hm => (hn e hm).2.2.1, rfl⟩
 | sum a b => exact .inl ⟨lookN_none fun e hm => (hn e hm).1, rfl⟩
 | prod a b => exact .inl ⟨lookN_none fun e hm => (hn e hm).1, rfl⟩
 | loop x a => exact .inl ⟨lookN_none fun e hm => (hn e hm).1, rfl⟩
def FindP (w : World) (t : NT × List (List UInt8 × NT)) (e : Ending) (w' : World) : Prop :=
 Below w.heap.size w w' /\ ∃ P n c A c', e = .returned (.tuple #[.agg #[.string (St t.1.toTr.atom), .slice P n c], .slice A t.2.length c']) /\ TAt w' (fun _ => True) t.1.toTr (.agg #[.string (St t.1.toTr.atom), .slice P n c]) /\ EnvAt w' t.2 A
end Go.Proofs.YtpokompplapkhaaGreatDoor

