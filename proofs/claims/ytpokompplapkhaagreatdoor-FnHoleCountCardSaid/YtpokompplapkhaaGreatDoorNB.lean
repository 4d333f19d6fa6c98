/- Values of types, in plain Lean: over nameless types with the loop types around, and over named ones. Values with right elements. Numbers of elements. Values as texts, read back: the plain law. -/
import Derived.Test.YtpokompplapkhaaGreatDoorMI
import Derived.Test.YtpokompplapkhaaGreatDoorMF
import Derived.Test.YtpokompplapkhaaGreatDoorMC
import Derived.Test.YtpokompplapkhaaGreatDoorMB
import Derived.Lib.Atoi
namespace Go.Proofs.YtpokompplapkhaaGreatDoor
open Go.RowKit
set_option linter.unusedVariables false
set_option linter.unusedSimpArgs false
def elN (s : List UInt8) : Nat := (s.drop 1).foldl (fun n b => 10 * n + (b.toNat - 48)) 0
def V.isOf (n : Int) : V -> List Ty -> Ty -> Bool
 | .u, _, .one => true
 | .el s, _, .name _ => decide ((elN s : Int) < n)
 | .l v, env, .sum a _ => v.isOf n env a
 | .r v, env, .sum _ b => v.isOf n env b
 | .p v w, env, .prod a b => v.isOf n env a && w.isOf n env b
 | .f v, env, .loop a => v.isOf n (.loop a :: env) a
 | .f v, env, .bound k => match env.drop k with
  | .loop a :: rest => v.isOf n (.loop a :: rest) a
  | _ => false
 | _, _, _ => false
def V.turn (g : List UInt8 -> List UInt8 -> List UInt8) : V -> List Ty -> Ty -> V
 | .el s, _, .name x => .el (g x s)
 | .l v, env, .sum a _ => .l (v.turn g env a)
 | .r v, env, .sum _ b => .r (v.turn g env b)
 | .p v w, env, .prod a b => .p (v.turn g env a) (w.turn g env b)
 | .f v, env, .loop a => .f (v.turn g (.loop a :: env) a)
 | .f v, env, .bound k => match env.drop k with
  | .loop a :: rest => .f (v.turn g (.loop a :: rest) a)
  | _ => .f v
 | v, _, _ => v
def V.labs : V -> List Ty -> Ty -> List (List UInt8 × List UInt8)
 | .el s, _, .name x => [(x, s)]
 | .l v, env, .sum a _ => v.labs env a
 | .r v, env, .sum _ b => v.labs env b
 | .p v w, env, .prod a b => v.labs env a ++ w.labs env b
 | .f v, env, .loop a => v.labs (.loop a :: env) a
 | .f v, env, .bound k => match env.drop k with
  | .loop a :: rest => v.labs (.loop a :: rest) a
  | _ => []
 | _, _, _ => []
theorem labs_elems (n : Int) : ∀ (v : V) (env : List Ty) (t : Ty), v.isOf n env t = true -> (v.labs env t).map (·.2) = v.elems := by
 intro v
 induction v with
 | u => intro env t h; cases t <;> first | rfl | cases h
 | el s => intro env t h; cases t <;> first | rfl | cases h
 | l v ih => intro env t h; cases t <;> first | cases h | exact ih _ _ h
 | r v ih => intro env t h; cases t <;> first | cases h | exact ih _ _ h
 | p v w ih ih2 =>
  intro env t h
  cases t <;> first
   | cases h
   | (simp only [V.isOf, Bool.and_eq_true] at h
      simp only [V.labs, V.elems, List.map_append, ih _ _ h.1, ih2 _ _ h.2])
 | f v ih =>
  intro env t h
  cases t with
  | loop a => exact ih _ _ h
  | bound k =>
   simp only [V.isOf] at h
   simp only [V.labs]
   split at h
   · exact ih _ _ h
   · cases h
  | _ => cases h
def lookN (s : List UInt8) : List (List UInt8 × NT) -> Option (NT × List (List UInt8 × NT))
 | [] => none
 | e :: r => if e.1 = s then some (e.2, e :: r) else lookN s r
def envTy : List (List UInt8 × NT) -> List Ty
 | [] => []
 | e :: r => (e.2.db (r.map (·.1))) :: envTy r
def EnvOk : List (List UInt8 × NT) -> Prop
 | [] => True
 | e :: r => (∃ a, e.2 = .loop e.1 a) /\ paramB e.1 = false /\ EnvOk r
theorem lookN_look {s : List UInt8} : ∀ (env : List (List UInt8 × NT)), (lookN s env = none -> look s (env.map (·.1)) = none) /\ (∀ L r, lookN s env = some (L, r) -> ∃ k, look s (env.map (·.1)) = some k /\ env.drop k = r /\ ∃ r', r = (s, L) :: r')
 | [] => ⟨fun _ => rfl, fun L r h => by cases h⟩
 | e :: es => by
  obtain ⟨h1, h2⟩ := lookN_look (s := s) es
  refine ⟨fun h => ?_, fun L r h => ?_⟩
  · simp only [lookN] at h
    split at h
    · cases h
    · rename_i he
      simp only [List.map_cons, look]
      rw [if_neg he, h1 h]
      rfl
  · simp only [lookN] at h
    split at h
    · rename_i he
      cases h
      refine ⟨0, by simp [look, he], rfl, es, ?_⟩
      rw [<- he]
    · rename_i he
      obtain ⟨k, hk, hd, hr⟩ := h2 L r h
      refine ⟨k + 1, ?_, hd, hr⟩
      simp only [List.map_cons, look]
      rw [if_neg he, hk]
      rfl
theorem envTy_drop : ∀ (env : List (List UInt8 × NT)) (k : Nat), (envTy env).drop k = envTy (env.drop k)
 | [], k => by simp [envTy]
 | e :: es, 0 => rfl
 | e :: es, k + 1 => envTy_drop es k
def V.isOfN (n : Int) : V -> List (List UInt8 × NT) -> NT -> Bool
 | .u, _, .one => true
 | .el s, env, .name x => match lookN x env with
  | some _ => false
  | none => paramB x && decide ((elN s : Int) < n)
 | .l v, env, .sum a _ => v.isOfN n env a
 | .r v, env, .sum _ b => v.isOfN n env b
 | .p v w, env, .prod a b => v.isOfN n env a && w.isOfN n env b
 | .f v, env, .loop x a => v.isOfN n ((x, .loop x a) :: env) a
 | .f v, env, .name s => match lookN s env with
  | some (.loop x a, _ :: rest) => v.isOfN n ((x, .loop x a) :: rest) a
  | _ => false
 | _, _, _ => false
theorem lookN_ok {s : List UInt8} {env : List (List UInt8 × NT)} (he : EnvOk env) : ∀ L r, lookN s env = some (L, r) -> EnvOk r /\ paramB s = false := by
 induction env with
 | nil => intro L r h; cases h
 | cons e es ih =>
  intro L r h
  simp only [lookN] at h
  split at h
  · rename_i heq
    cases h
    exact ⟨he, by rw [<- heq]; exact he.2.1⟩
  · exact ih he.2.2 L r h
theorem isOfN_db (n : Int) : ∀ (v : V) (env : List (List UInt8 × NT)) (N : NT), EnvOk env -> N.ok3 -> (∀ s, (N.db (env.map (·.1))).has s -> paramB s = true) -> (∀ e ∈ env, e.2.ok3) -> (∀ (k : Nat) (e : List UInt8 × NT) (r : List (List UInt8 × NT)), env.drop k = e :: r -> ∀ s, (e.2.db (r.map (·.1))).has s -> paramB s = true) ->
 v.isOfN n env N = v.isOf n (envTy env) (N.db (env.map (·.1))) := by
 intro v
 induction v with
 | u =>
  intro env N he hN hp ho hq
  cases N with
  | name s =>
   simp only [NT.db]
   split
   · rfl
   · split <;> rfl
  | _ => rfl
 | el e =>
  intro env N he hN hp ho hq
  cases N with
  | name s =>
   simp only [V.isOfN]
   cases hl : lookN s env with
   | none =>
    have h1 := (lookN_look env).1 hl
    have hs : paramB s = true := hp s (by
     simp only [NT.db]
     split
     · rfl
     · rw [h1]; rfl)
    simp only [NT.db]
    rw [if_pos hs, hs, Bool.true_and]
    rfl
   | some q =>
    obtain ⟨L, r⟩ := q
    obtain ⟨k, hk, _⟩ := (lookN_look env).2 L r hl
    have hs := (lookN_ok he L r hl).2
    simp only [NT.db]
    rw [if_neg (by rw [hs]; simp), hk]
    rfl
  | _ => rfl
 | l v ih =>
  intro env N he hN hp ho hq
  cases N with
  | sum a b => exact ih env a he hN.1 (fun s h => hp s (.inl h)) ho hq
  | name s =>
   simp only [NT.db]
   split
   · rfl
   · split <;> rfl
  | _ => rfl
 | r v ih =>
  intro env N he hN hp ho hq
  cases N with
  | sum a b => exact ih env b he hN.2 (fun s h => hp s (.inr h)) ho hq
  | name s =>
   simp only [NT.db]
   split
   · rfl
   · split <;> rfl
  | _ => rfl
 | p v w ih ih2 =>
  intro env N he hN hp ho hq
  cases N with
  | prod a b =>
   simp only [V.isOfN, NT.db, V.isOf]
   rw [ih env a he hN.1 (fun s h => hp s (.inl h)) ho hq, ih2 env b he hN.2 (fun s h => hp s (.inr h)) ho hq]
  | name s =>
   simp only [NT.db]
   split
   · rfl
   · split <;> rfl
  | _ => rfl
 | f v ih =>
  intro env N he hN hp ho hq
  have loopcase : ∀ (rest : List (List UInt8 × NT)) (x : List UInt8) (a : NT), EnvOk rest -> (NT.loop x a).ok3 -> (∀ s, ((NT.loop x a).db (rest.map (·.1))).has s -> paramB s = true) -> (∀ e ∈ rest, e.2.ok3) -> (∀ (k : Nat) (e : List UInt8 × NT) (r : List (List UInt8 × NT)), rest.drop k = e :: r -> ∀ s, (e.2.db (r.map (·.1))).has s -> paramB s = true) ->
   v.isOfN n ((x, .loop x a) :: rest) a = v.isOf n (.loop (a.db (x :: rest.map (·.1))) :: envTy rest) (a.db (x :: rest.map (·.1))) := fun rest x a h1 h2 h3 h4 h5 => by
   refine ih ((x, .loop x a) :: rest) a ⟨⟨a, rfl⟩, h2.1.2, h1⟩ h2.2 h3 (fun e hm => ?_) (fun k e r hd => ?_)
   · rcases List.mem_cons.1 hm with rfl | hm
     · exact h2
     · exact h4 e hm
   · cases k with
     | zero => cases hd; exact h3
     | succ k => exact h5 k e r hd
  cases N with
  | loop x a => exact loopcase env x a he hN hp ho hq
  | name s =>
   simp only [V.isOfN]
   cases hl : lookN s env with
   | none =>
    have h1 := (lookN_look env).1 hl
    simp only [NT.db]
    split
    · rfl
    · rw [h1]; rfl
   | some q =>
    obtain ⟨L, r⟩ := q
    obtain ⟨k, hk, hd, r', hr⟩ := (lookN_look env).2 L r hl
    subst hr
    have hs := (lookN_ok he L _ hl).2
    have heo := (lookN_ok he L _ hl).1
    obtain ⟨⟨a, ha⟩, hpn, her⟩ := heo
    have ha : L = .loop s a := ha
    subst ha
    have hmem : ∀ e ∈ (s, NT.loop s a) :: r', e ∈ env := fun e hm => by rw [<- hd] at hm; exact List.mem_of_mem_drop hm
    simp only [NT.db]
    rw [if_neg (by rw [hs]; simp), hk]
    simp only [V.isOf]
    rw [envTy_drop, hd]
    simp only [envTy, NT.db]
    refine loopcase r' s a her (ho _ (hmem _ (List.mem_cons_self ..))) (hq k _ r' hd) (fun e hm => ho e (hmem e (List.mem_cons_of_mem _ hm))) (fun j e r hj => hq (k + 1 + j) e r ?_)
    rw [Nat.add_assoc, <- List.drop_drop, hd, Nat.add_comm 1 j]
    exact hj
  | _ => rfl
def EnvSc : List Ty -> Prop
 | [] => True
 | X :: r => (∃ a, X = .loop a /\ a.scoped (r.length + 1)) /\ EnvSc r
theorem EnvSc.drop {env : List Ty} (h : EnvSc env) : ∀ k, k < env.length -> ∃ a rest, env.drop k = .loop a :: rest /\ a.scoped (rest.length + 1) /\ EnvSc rest := by
 induction env with
 | nil => intro k hk; cases hk
 | cons X r ih =>
  intro k hk
  cases k with
  | zero =>
   obtain ⟨⟨a, rfl, ha⟩, hr⟩ := h
   exact ⟨a, r, rfl, ha, hr⟩
  | succ k => exact ih h.2 k (by simpa using hk)
end Go.Proofs.YtpokompplapkhaaGreatDoor
namespace Go.Proofs.YtpokompplapkhaaGreatDoor
open Go.RowKit
set_option linter.unusedVariables false
set_option linter.unusedSimpArgs false
def V.ok : V -> Prop
 | .u => True
 | .el s => elemB s = true
 | .l a => a.ok
 | .r a => a.ok
 | .f a => a.ok
 | .p a b => a.ok /\ b.ok
theorem valTwo_ok {h : List UInt8} {x : Option V} {v : V} (hx : ∀ v, x = some v -> v.ok) (hv : valTwo h x = some v) : v.ok := by
 unfold valTwo at hv
 cases x with
 | none => (repeat' split at hv) <;> simp at hv
 | some a =>
  have := hx a rfl
  (repeat' split at hv) <;> simp at hv <;> subst hv <;> exact this
theorem valThree_ok {h : List UInt8} {x y : Option V} {v : V} (hx : ∀ v, x = some v -> v.ok) (hy : ∀ v, y = some v -> v.ok) (hv : valThree h x y = some v) : v.ok := by
 unfold valThree at hv
 split at hv
 · cases x with
   | none => simp at hv
   | some a =>
    cases y with
    | none => simp at hv
    | some b =>
     simp at hv
     subst hv
     exact ⟨hx a rfl, hy b rfl⟩
 · simp at hv
theorem atomV_ok {s : List UInt8} {x : Option V} {v : V} (hx : ∀ v, x = some v -> v.ok) (hv : atomV s x = some v) : v.ok := by
 unfold atomV at hv
 split at hv
 · simp at hv; subst hv; trivial
 · split at hv
   · rename_i he
     simp at hv; subst hv; exact he
   · exact hx v hv
theorem valOf_ok : ∀ (t : Tr) (v : V), valOf t = some v -> v.ok
 | .mk s [.mk h q, a], v, hv => by
  simp only [valOf] at hv
  exact atomV_ok (fun v h => valTwo_ok (valOf_ok a) h) hv
 | .mk s [.mk h q, a, b], v, hv => by
  simp only [valOf] at hv
  exact atomV_ok (fun v h => valThree_ok (valOf_ok a) (valOf_ok b) h) hv
 | .mk s [], v, hv => by
  simp only [valOf] at hv
  exact atomV_ok (fun v h => by cases h) hv
 | .mk s [_], v, hv => by
  simp only [valOf] at hv
  exact atomV_ok (fun v h => by cases h) hv
 | .mk s (_ :: _ :: _ :: _ :: _), v, hv => by
  simp only [valOf] at hv
  exact atomV_ok (fun v h => by cases h) hv
theorem rdVal_ok {l : List UInt8} {v : V} (h : rdVal l = some v) : v.ok := by
 unfold rdVal at h
 split at h
 · cases h
 · split at h
   · cases h
   · rename_i hv
     split at h
     · cases h
     · simp at h; subst h; exact valOf_ok _ _ hv
end Go.Proofs.YtpokompplapkhaaGreatDoor
namespace Go.Proofs.YtpokompplapkhaaGreatDoor
open Go.RowKit
set_option linter.unusedVariables false
set_option linter.unusedSimpArgs false
theorem elem_nums {s : List UInt8} (h : elemB s = true) : ∃ r, s = 101 :: r /\ 1 <= r.length /\ r.length <= 2 /\ Lib.atoi r = some (elN s : Int) /\ elN s <= 99 /\ elemNum s = (elN s : Int) := by
 rcases s with _ | ⟨e, _ | ⟨a, _ | ⟨b, _ | ⟨c, r⟩⟩⟩⟩
 · cases h
 · cases h
 · simp only [elemB, Bool.and_eq_true, beq_iff_eq] at h
   obtain ⟨rfl, ha⟩ := h
   have h1 := (digitB_iff a).1 ha
   have hn : elN [101, a] = a.toNat - 48 := by simp [elN]
   refine ⟨[a], rfl, by simp, by simp, ?_, by omega, ?_⟩
   · have k1 : ¬ a = 45 := by rintro rfl; exact absurd h1.1 (by decide)
     have k2 : ¬ a = 43 := by rintro rfl; exact absurd h1.1 (by decide)
     rw [hn]
     simp [Lib.atoi, Lib.decNat, Lib.decFrom, Lib.digitVal, h1, k1, k2]
   · have he : elemB [101, a] = true := by simp [elemB, ha]
     simp only [elemNum, he, if_true, hn, numB, List.tail_cons, List.foldl_cons, List.foldl_nil]
     omega
 · simp only [elemB, Bool.and_eq_true, beq_iff_eq] at h
   obtain ⟨⟨rfl, ha, hb⟩, h0⟩ := h
   have h1 := (digitB_iff a).1 ha
   have h2 := (digitB_iff b).1 hb
   have hn : elN [101, a, b] = 10 * (a.toNat - 48) + (b.toNat - 48) := by simp [elN]
   refine ⟨[a, b], rfl, by simp, by simp, ?_, by omega, ?_⟩
   · have k1 : ¬ a = 45 := by rintro rfl; exact absurd h1.1 (by decide)
     have k2 : ¬ a = 43 := by rintro rfl; exact absurd h1.1 (by decide)
     rw [hn]
     simp [Lib.atoi, Lib.decNat, Lib.decFrom, Lib.digitVal, h1, h2, k1, k2]
     omega
   · have he : elemB [101, a, b] = true := by simp [elemB, ha, hb, h0]
     simp only [elemNum, he, if_true, hn, numB, List.tail_cons, List.foldl_cons, List.foldl_nil]
     omega
 · cases h
end Go.Proofs.YtpokompplapkhaaGreatDoor
namespace Go.Proofs.YtpokompplapkhaaGreatDoor
open Go.RowKit
set_option linter.unusedVariables false
set_option linter.unusedSimpArgs false
theorem elemB_form {s : List UInt8} (h : elemB s = true) : s ≠ [] /\ s ≠ [117] /\ (∀ b ∈ s, atomB b = true) /\ s.length <= 3 := by
 rcases s with _ | ⟨e, _ | ⟨a, _ | ⟨b, _ | ⟨c, r⟩⟩⟩⟩
 · cases h
 · cases h
 · simp only [elemB, Bool.and_eq_true, beq_iff_eq] at h
   obtain ⟨rfl, ha⟩ := h
   refine ⟨by simp, by simp, fun b hb => ?_, by simp⟩
   simp only [List.mem_cons, List.mem_nil_iff, or_false] at hb
   rcases hb with rfl | rfl
   · decide
   · exact digit_atom ha
 · simp only [elemB, Bool.and_eq_true, beq_iff_eq] at h
   obtain ⟨⟨rfl, ha, hb⟩, _⟩ := h
   refine ⟨by simp, by simp, fun c hc => ?_, by simp⟩
   simp only [List.mem_cons, List.mem_nil_iff, or_false] at hc
   rcases hc with rfl | rfl | rfl
   · decide
   · exact digit_atom ha
   · exact digit_atom hb
 · cases h
theorem V.wf : ∀ {v : V}, v.ok -> v.toTr.wf
 | .u, _ => .inl ⟨by simp, by decide, rfl⟩
 | .el s, h => .inl ⟨(elemB_form h).1, (elemB_form h).2.2.1, rfl⟩
 | .l a, h => .inr ⟨rfl, by simp, .inl ⟨by simp, by decide, rfl⟩, V.wf (v := a) h, trivial⟩
 | .r a, h => .inr ⟨rfl, by simp, .inl ⟨by simp, by decide, rfl⟩, V.wf (v := a) h, trivial⟩
 | .f a, h => .inr ⟨rfl, by simp, .inl ⟨by simp, by decide, rfl⟩, V.wf (v := a) h, trivial⟩
 | .p a b, h => .inr ⟨rfl, by simp, .inl ⟨by simp, by decide, rfl⟩, V.wf h.1, V.wf h.2, trivial⟩
theorem V.pos (v : V) : 1 <= v.nodes := by cases v <;> simp only [V.nodes] <;> omega
theorem V.len_nodes : ∀ {v : V}, v.ok -> v.toTr.txt.length <= 5 * v.nodes
 | .u, _ => by simp [V.toTr, Tr.txt, V.nodes]
 | .el s, h => by
  have h1 := (elemB_form h).1
  have h2 := (elemB_form h).2.2.2
  simp only [V.toTr, Tr.txt, V.nodes, if_neg h1]; omega
 | .l a, h => by have := V.len_nodes (v := a) h; simp [V.toTr, Tr.txt, Tr.txts, V.nodes]; omega
 | .r a, h => by have := V.len_nodes (v := a) h; simp [V.toTr, Tr.txt, Tr.txts, V.nodes]; omega
 | .f a, h => by have := V.len_nodes (v := a) h; simp [V.toTr, Tr.txt, Tr.txts, V.nodes]; omega
 | .p a b, h => by have := V.len_nodes h.1; have := V.len_nodes h.2; simp [V.toTr, Tr.txt, Tr.txts, V.nodes]; omega
theorem rdVal_tr {l : List UInt8} {v : V} (h : rdVal l = some v) : l = v.toTr.txt /\ v.ok /\ v.nodes <= 200 := by
 have hn := rdVal_nodes h
 unfold rdVal at h
 split at h
 · cases h
 · rename_i t ht
   obtain ⟨h1, hw, hd, hl⟩ := rdText_inv ht
   split at h
   · cases h
   · rename_i m hm
     split at h
     · cases h
     · cases h
       have h2 := valOf_toTr t v (wf_okT hw) hm
       exact ⟨by rw [h1, h2], valOf_ok t v hm, hn⟩
end Go.Proofs.YtpokompplapkhaaGreatDoor

