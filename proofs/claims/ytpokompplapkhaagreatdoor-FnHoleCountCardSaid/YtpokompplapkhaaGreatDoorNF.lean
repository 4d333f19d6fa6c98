/- Holes have different contexts; there are as many as places. As many holes as places: the plain law. -/
import Derived.Test.YtpokompplapkhaaGreatDoorNG
import Derived.Test.YtpokompplapkhaaGreatDoorHolD0
import Derived.Test.YtpokompplapkhaaGreatDoorVMapI
namespace Go.Proofs.YtpokompplapkhaaGreatDoor
open Go.RowKit
set_option linter.unusedVariables false
set_option linter.unusedSimpArgs false
theorem holesV_nf (n : Nat) (a : Ty) (g : Tg) (v : V) (h : ∀ v', v = .f v' -> False) : holesV (n + 1) (.loop a) g v = [] := by
 rw [holesV]
 exact h
def V.labv : V -> List Ty -> Ty -> List (List UInt8 × V)
 | .l v, env, .sum a _ => v.labv env a
 | .r v, env, .sum _ b => v.labv env b
 | .p v w, env, .prod a b => v.labv env a ++ w.labv env b
 | .f v, env, .loop a => v.labv (.loop a :: env) a
 | .f v, env, .bound k => match env.drop k with
  | .loop a :: rest => v.labv (.loop a :: rest) a
  | _ => []
 | .u, _, .name x => [(x, .u)]
 | .el s, _, .name x => [(x, .el s)]
 | .l v, _, .name x => [(x, .l v)]
 | .r v, _, .name x => [(x, .r v)]
 | .f v, _, .name x => [(x, .f v)]
 | .p v w, _, .name x => [(x, .p v w)]
 | _, _, _ => []
theorem labv_name (v : V) (env : List Ty) (x : List UInt8) : v.labv env (.name x) = [(x, v)] := by cases v <;> rfl
theorem labs_labv (n : Int) : ∀ (v : V) (env : List Ty) (t : Ty), v.isOf n env t = true -> v.labv env t = (v.labs env t).map fun p => (p.1, V.el p.2) := by
 intro v
 induction v with
 | u => intro env t h; cases t <;> first | rfl | cases h
 | el s => intro env t h; cases t <;> first | rfl | cases h
 | l v ih => intro env t h; cases t <;> first | cases h | exact ih _ _ h
 | r v ih => intro env t h; cases t <;> first | cases h | exact ih _ _ h
 | p v w ih ih2 =>
  intro env t h
  cases t <;> first
   | cases h
   | (simp only [V.isOf, Bool.and_eq_true] at h
      simp only [V.labs, V.labv, List.map_append, ih _ _ h.1, ih2 _ _ h.2])
 | f v ih =>
  intro env t h
  cases t with
  | loop a => exact ih _ _ h
  | bound k =>
   simp only [V.isOf] at h
   simp only [V.labs, V.labv]
   split at h
   · rename_i heq
     simp only [heq]
     exact ih _ _ h
   · cases h
  | _ => cases h
def cntL (x : List UInt8) (q : V -> Bool) (v : V) (env : List Ty) (t : Ty) : Nat := (v.labv env t).countP fun p => decide (p.1 = x) && q p.2
def sumL (l : List Nat) : Nat := l.foldr (· + ·) 0
theorem sumL_app (l m : List Nat) : sumL (l ++ m) = sumL l + sumL m := by
 induction l with
 | nil => simp [sumL]
 | cons a l ih => simp only [List.cons_append]; show a + sumL (l ++ m) = a + sumL l + sumL m; omega
theorem sumL_cons (a : Nat) (l : List Nat) : sumL (a :: l) = a + sumL l := rfl
def sumH (f : V -> Nat) (l : List (V × V)) : Nat := sumL (l.map fun h => f h.2)
theorem sumH_map (f : V -> Nat) (F : V -> V) (l : List (V × V)) : sumH f (l.map fun h => (F h.1, h.2)) = sumH f l := by simp [sumH, List.map_map, Function.comp_def]
theorem sumH_app (f : V -> Nat) (l m : List (V × V)) : sumH f (l ++ m) = sumH f l + sumH f m := by simp [sumH, sumL_app]
theorem sumH_flat (f : V -> Nat) (F : V × V -> List (V × V)) : ∀ (l : List (V × V)), sumH f (l.flatMap F) = sumL (l.map fun k => sumH f (F k))
 | [] => rfl
 | k :: l => by rw [List.flatMap_cons, sumH_app, sumH_flat f F l]; rfl
theorem sumL_add (f g : V × V -> Nat) : ∀ (l : List (V × V)), sumL (l.map fun k => f k + g k) = sumL (l.map f) + sumL (l.map g)
 | [] => rfl
 | k :: l => by simp only [List.map_cons, sumL_cons, sumL_add f g l]; omega
def sumB (f : Nat -> Nat) : Nat -> Nat
 | 0 => 0
 | n + 1 => f 0 + sumB (fun k => f (k + 1)) n
theorem sumB_congr {f g : Nat -> Nat} : ∀ (n : Nat), (∀ k, k < n -> f k = g k) -> sumB f n = sumB g n
 | 0, _ => rfl
 | n + 1, h => by
  simp only [sumB]
  rw [h 0 (by omega), sumB_congr n fun k hk => h (k + 1) (by omega)]
theorem sumB_add : ∀ (n : Nat) (f g : Nat -> Nat), sumB (fun k => f k + g k) n = sumB f n + sumB g n
 | 0, _, _ => rfl
 | n + 1, f, g => by
  simp only [sumB]
  rw [sumB_add n (fun k => f (k + 1)) fun k => g (k + 1)]
  omega
theorem sumB_zero : ∀ (n : Nat), sumB (fun _ => 0) n = 0
 | 0 => rfl
 | n + 1 => by simp only [sumB]; rw [sumB_zero n]
theorem sumB_one : ∀ (n k : Nat) (c : Nat), k < n -> sumB (fun j => if k = j then c else 0) n = c
 | 0, _, _, h => absurd h (Nat.not_lt_zero _)
 | n + 1, 0, c, _ => by
  simp only [sumB, if_pos]
  rw [sumB_congr n (g := fun _ => 0) fun k hk => if_neg (by omega), sumB_zero]
  rfl
 | n + 1, k + 1, c, h => by
  simp only [sumB]
  rw [if_neg (by omega), sumB_congr n (g := fun j => if k = j then c else 0) fun j hj => by simp, sumB_one n k c (by omega)]
  omega
theorem sumB_swap (n : Nat) (F : V × V -> Nat -> Nat) : ∀ (l : List (V × V)), sumL (l.map fun k => sumB (F k) n) = sumB (fun j => sumL (l.map fun k => F k j)) n
 | [] => by simp [sumL, sumB_zero]
 | k :: l => by
  simp only [List.map_cons, sumL_cons, sumB_swap n F l]
  rw [sumB_add]
theorem cnt_bound0 (x : List UInt8) (q : V -> Bool) (v : V) (a : Ty) (env : List Ty) : cntL x q v (.loop a :: env) (.bound 0) = cntL x q v env (.loop a) := by
 cases v <;> rfl
theorem cnt_boundS (x : List UInt8) (q : V -> Bool) (v : V) (T : Ty) (env : List Ty) (k : Nat) : cntL x q v (T :: env) (.bound (k + 1)) = cntL x q v env (.bound k) := by
 cases v <;> rfl
theorem cnt_places (x : List UInt8) (q : V -> Bool) : ∀ (n : Nat) (v : V) (env : List Ty) (t : Ty), v.nodes <= n -> t.scoped env.length ->
 cntL x q v env t = ((holesV n t (.nm x) v).countP fun h => q h.2) + sumB (fun k => sumH (fun y => cntL x q y env (.bound k)) (holesV n t (.bd k) v)) env.length := by
 intro n
 induction n with
 | zero => intro v env t h; have : 1 <= v.nodes := by cases v <;> simp only [V.nodes] <;> omega
           omega
 | succ n ih =>
  intro v env t hv hs
  have cp : ∀ (F : V -> V) (l : List (V × V)), (l.map fun h => (F h.1, h.2)).countP (fun h => q h.2) = l.countP fun h => q h.2 := fun F l => by rw [List.countP_map]; rfl
  have z : sumB (fun k => sumH (fun y => cntL x q y env (.bound k)) ([] : List (V × V))) env.length = 0 := sumB_zero _
  cases t with
  | zero =>
   have e1 : ∀ g, holesV (n + 1) .zero g v = [] := fun g => by simp only [holesV]; cases g <;> rfl
   simp only [e1, z]
   cases v <;> rfl
  | one =>
   have e1 : ∀ g, holesV (n + 1) .one g v = [] := fun g => by simp only [holesV]; cases g <;> rfl
   simp only [e1, z]
   cases v <;> rfl
  | name s =>
   have e1 : ∀ k, holesV (n + 1) (.name s) (.bd k) v = [] := fun k => by simp only [holesV]; rfl
   simp only [e1, z, Nat.add_zero]
   unfold cntL
   rw [labv_name, holesV_name]
   by_cases hsx : s = x
   · subst hsx; simp [Tg.at]
   · simp [Tg.at, hsx]
  | bound k =>
   have e1 : holesV (n + 1) (.bound k) (.nm x) v = [] := by simp only [holesV]; rfl
   rw [e1]
   have e2 : ∀ j, sumH (fun y => cntL x q y env (.bound j)) (holesV (n + 1) (.bound k) (.bd j) v) = if k = j then cntL x q v env (.bound k) else 0 := fun j => by
    rw [holesV_bound]
    by_cases hj : k = j
    · subst hj; simp [Tg.at, sumH, sumL]
    · simp [Tg.at, hj, sumH, sumL]
   simp only [e2]
   rw [sumB_one _ _ _ (show k < env.length from hs)]
   simp
  | sum a b =>
   cases v with
   | l v =>
    simp only [V.nodes] at hv
    simp only [holesV, cp, sumH_map]
    exact ih v env a (by omega) hs.1
   | r v =>
    simp only [V.nodes] at hv
    simp only [holesV, cp, sumH_map]
    exact ih v env b (by omega) hs.2
   | _ => simp only [holesV, z]; rfl
  | prod a b =>
   cases v with
   | p v w =>
    simp only [V.nodes] at hv
    have h1 := ih v env a (by omega) hs.1
    have h2 := ih w env b (by omega) hs.2
    have h3 : cntL x q (.p v w) env (.prod a b) = cntL x q v env a + cntL x q w env b := by
     unfold cntL
     simp only [V.labv, List.countP_append]
    rw [h3, h1, h2]
    have e1 : ∀ g, holesV (n + 1) (.prod a b) g (.p v w) = ((holesV n a g v).map fun h => (V.l (.p h.1 w), h.2)) ++ (holesV n b g w).map fun h => (V.r (.p v h.1), h.2) := fun g => by simp only [holesV]
    simp only [e1, List.countP_append, sumH_app]
    rw [cp (fun c => V.l (.p c w)), cp (fun c => V.r (.p v c)), sumB_add]
    simp only [sumH_map (F := fun c => V.l (.p c w)), sumH_map (F := fun c => V.r (.p v c))]
    omega
   | _ => simp only [holesV, z]; rfl
  | loop a =>
   by_cases hf : ∃ v', v = .f v'
   case neg =>
    have e1 : ∀ g, holesV (n + 1) (.loop a) g v = [] := fun g => holesV_nf n a g v (fun v' h => hf ⟨v', h⟩)
    simp only [e1, z]
    cases v <;> first | rfl | exact absurd ⟨_, rfl⟩ hf
   case pos =>
    obtain ⟨v, rfl⟩ := hf
    simp only [V.nodes] at hv
    have h1 := ih v (.loop a :: env) a (by omega) hs
    have h0 : cntL x q (.f v) env (.loop a) = cntL x q v (.loop a :: env) a := rfl
    rw [h0, h1]
    have e1 : ∀ g, holesV (n + 1) (.loop a) g (.f v) = ((holesV n a g.up v).map fun h => (V.f (.l h.1), h.2)) ++ (holesV n a (.bd 0) v).flatMap fun k => (holesV n (.loop a) g k.2).map fun h => (V.f (.r (.p k.1 h.1)), h.2) := fun g => by rw [holesV]
    simp only [e1, List.countP_append, sumH_app, cp (fun c => V.f (.l c)), sumH_map (F := fun c => V.f (.l c))]
    simp only [List.length_cons, sumB, cnt_bound0, cnt_boundS, Tg.up]
    rw [sumB_add]
    -- the kids
    generalize hK : holesV n a (.bd 0) v = K at *
    have hKs : ∀ p ∈ K, p.2.nodes <= n := fun p hp => by
     have := hole_size n a (.bd 0) v p (by rw [hK]; exact hp)
     omega
    have h2 : sumH (fun y => cntL x q y env (.loop a)) K = sumL (K.map fun p => ((holesV n (.loop a) (.nm x) p.2).countP fun h => q h.2) + sumB (fun k => sumH (fun y => cntL x q y env (.bound k)) (holesV n (.loop a) (.bd k) p.2)) env.length) := by
     unfold sumH
     congr 1
     exact List.map_congr_left fun p hp => ih p.2 env (.loop a) (hKs p hp) hs
    rw [h2, sumL_add, sumB_swap]
    have h4 : (K.flatMap fun k => (holesV n (.loop a) (.nm x) k.2).map fun h => (V.f (.r (.p k.1 h.1)), h.2)).countP (fun h => q h.2) = sumL (K.map fun p => (holesV n (.loop a) (.nm x) p.2).countP fun h => q h.2) := by
     clear h1 h2 hKs hK e1
     induction K with
     | nil => rfl
     | cons k K ihK =>
      rw [List.flatMap_cons, List.countP_append, ihK, List.map_cons, sumL_cons, cp (fun c => V.f (.r (.p k.1 c)))]
    rw [h4]
    have h5 : ∀ j, sumH (fun y => cntL x q y env (.bound j)) (K.flatMap fun k => (holesV n (.loop a) (.bd j) k.2).map fun h => (V.f (.r (.p k.1 h.1)), h.2)) = sumL (K.map fun k => sumH (fun y => cntL x q y env (.bound j)) (holesV n (.loop a) (.bd j) k.2)) := fun j => by
     rw [sumH_flat]
     congr 1
     refine List.map_congr_left fun p hp => ?_
     rw [sumH_map (F := fun c => V.f (.r (.p p.1 c)))]
    simp only [h5]
    omega
end Go.Proofs.YtpokompplapkhaaGreatDoor
namespace Go.Proofs.YtpokompplapkhaaGreatDoor
open Go.RowKit
set_option linter.unusedVariables false
set_option linter.unusedSimpArgs false
theorem el_txt {s : List UInt8} (h : elemB s = true) : (V.el s).toTr.txt = s := by
 have := (elemB_form h).1
 simp [V.toTr, Tr.txt, this]
theorem count_facts {l nm v : List UInt8} {hs : List (V × V)} (h : holB l nm v = some hs) :
 ∃ L, voB l v nm = some L /\ L.length = hs.length /\ hs.length <= 200 /\ ∀ t, L.countP (fun s => decide (s = t)) = hs.countP fun p => decide (p.2.toTr.txt = t) := by
 obtain ⟨N, x, ho, hp, rfl⟩ := holB_some h
 obtain ⟨hc, hr, _, _, hty⟩ := valsOf_some ho
 obtain ⟨hvt, hok, hnd⟩ := rdVal_tr hr
 have key : ∀ q : V -> Bool, (x.atE [] (N.db []) nm).countP (fun s => q (.el s)) = (hol (N.db []) (.nm nm) x).countP fun p => q p.2 := fun q => by
  have h1 := cnt_places nm q x.nodes x [] (N.db []) (Nat.le_refl _) (db_scoped N [])
  have h2 : sumB (fun k => sumH (fun y => cntL nm q y [] (.bound k)) (holesV x.nodes (N.db []) (.bd k) x)) ([] : List Ty).length = 0 := rfl
  rw [h2, Nat.add_zero] at h1
  unfold hol
  rw [<- h1]
  unfold cntL V.atE
  rw [labs_labv 100 x [] _ hty, List.countP_map, List.countP_map, List.countP_filter]
  refine List.countP_congr fun p _ => ?_
  simp only [Function.comp]
  rw [Bool.and_comm]
 refine ⟨x.atE [] (N.db []) nm, ?_, ?_, ?_, fun t => ?_⟩
 · unfold voB
   rw [ho]
   simp only
   rw [if_pos hp]
 · have := key fun _ => true
   simpa using this
 · have := hol_len (N.db []) (.nm nm) x
   omega
 · rw [<- key fun y => decide (y.toTr.txt = t)]
   refine List.countP_congr fun s hs => ?_
   have he : elemB s = true := by
    unfold V.atE at hs
    obtain ⟨p, hp, rfl⟩ := List.mem_map.1 hs
    exact labs_ok x [] (N.db []) hok p (List.mem_filter.1 hp).1
   rw [el_txt he]
end Go.Proofs.YtpokompplapkhaaGreatDoor

