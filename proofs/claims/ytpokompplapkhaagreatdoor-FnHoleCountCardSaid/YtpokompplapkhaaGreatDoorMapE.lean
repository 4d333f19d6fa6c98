/- The program's mapElements, with a closure that it is handed. -/
import Derived.Test.YtpokompplapkhaaGreatDoorVOf
import Derived.Test.YtpokompplapkhaaGreatDoorNE
import Derived.Test.YtpokompplapkhaaGreatDoorTk
import Derived.Test.YtpokompplapkhaaGreatDoorMapP
namespace Go.Proofs.YtpokompplapkhaaGreatDoor
set_option maxHeartbeats 8000000
set_option maxRecDepth 100000
open Go.RowKit
set_option linter.unusedVariables false
set_option linter.unusedSimpArgs false
def atF (nm : List UInt8) (g : List UInt8 -> List UInt8) (x s : List UInt8) : List UInt8 := if x = nm then g s else s
def MPost (I : List (List UInt8) -> World -> Prop) (w : World) (v : V) (acc : List (List UInt8)) (e : Ending) (w' : World) : Prop :=
 ∃ g, e = .returned (.pointer (some ⟨g, 0, none⟩)) /\ VAt w' v (some ⟨g, 0, none⟩) /\ I acc w' /\ Kp w w'
def V.atE (v : V) (env : List Ty) (t : Ty) (nm : List UInt8) : List (List UInt8) := ((v.labs env t).filter fun p => decide (p.1 = nm)).map (·.2)
theorem atE_len {n : Int} {v : V} {env : List Ty} {t : Ty} {nm : List UInt8} (h : v.isOf n env t = true) : (v.atE env t nm).length <= v.nodes := by
 unfold V.atE
 rw [List.length_map]
 have h1 := List.length_filter_le (fun p : List UInt8 × List UInt8 => decide (p.1 = nm)) (v.labs env t)
 have h2 := congrArg List.length (labs_elems n v env t h)
 rw [List.length_map] at h2
 have h3 := elems_len v
 omega
def MElV (I : List (List UInt8) -> World -> Prop) (f : List UInt8 -> List UInt8) (nm : List UInt8) (cp0 : Option Addr) (n : Int) (v : V) (t : Ty) : Prop := ∀ (env : List (Ty × Nat)) (w : World) (p pe pv : Option Addr) (acc : List (List UInt8)), I acc w -> TyAt w t p -> FAt w env pe -> VAt w v pv -> t.scoped env.length -> t.bs -> EnvG env -> v.ok -> v.isOf n (env.map (·.1)) t = true -> acc.length + v.nodes <= 1000000 ->
 Calls Tryz.prog 74 #[.agg #[.pointer p, .pointer pe], .pointer pv, .string (St nm), .func (.func 75) #[] #[.pointer cp0]] w (MPost I w (v.turn (atF nm f) (env.map (·.1)) t) (acc ++ v.atE (env.map (·.1)) t nm))
theorem mapV_one (I : List (List UInt8) -> World -> Prop) (hI : ∀ acc w w', I acc w -> Below w.heap.size w w' -> I acc w') (f : List UInt8 -> List UInt8) (nm : List UInt8) (cp0 : Option Addr) (n : Int) (v : V) : MElV I f nm cp0 n v .one := by
 rintro env w p pe pv acc hi ⟨g, rfl, hb⟩ he hv hs hbs hE hok hty hal
 have c0 : w.cell? ⟨g, 0, none⟩ = some (.int .u8 49) := block_cell hb 0
 have lg := lt_of_block hb
 obtain ⟨q, rfl⟩ := hv.some_
 have hr : v.turn (atF nm f) (env.map (·.1)) .one = v := by cases v <;> rfl
 have hr2 : v.atE (env.map (·.1)) .one nm = [] := by cases v <;> rfl
 rw [hr, hr2, List.append_nil]
 have HQ : Hid (∀ w', Below w.heap.size w w' -> MPost I w v acc (.returned (.pointer (some ⟨q, 0, none⟩))) w') := fun w' h => ⟨q, rfl, hv.up h, hI _ _ _ hi h, .up h⟩
 generalize MPost I w v acc = Q at *
 clear hb he hv hs hbs hE hok hty hr hr2 hi hI
 go_enter Tryz.func74, Tryz.ntmps74
 go_wp2_with fail
 exact HQ.out _ (up1 w _)
theorem mapV_name (I : List (List UInt8) -> World -> Prop) (hI : ∀ acc w w', I acc w -> Below w.heap.size w w' -> I acc w') (f : List UInt8 -> List UInt8) (nm : List UInt8) (cp0 : Option Addr) (n : Int) (hK : ∀ (s : List UInt8) (acc : List (List UInt8)) (w1 : World), elemB s = true -> acc.length < 1000000 -> I acc w1 -> Calls Tryz.prog 75 #[.string (St s), .pointer cp0] w1 fun e w' => e = .returned (.string (St (f s))) /\ I (acc ++ [s]) w' /\ Kp w1 w') (v : V) (x : List UInt8) : MElV I f nm cp0 n v (.name x) := by
 rintro env w p pe pv acc hi ⟨g, rfl, hb⟩ he hv hs hbs hE hok hty hal
 have c0 : w.cell? ⟨g, 0, none⟩ = some (.int .u8 110) := block_cell hb 0
 have c1 : w.cell? ⟨g, 1, none⟩ = some (.string (St x)) := block_cell hb 1
 have lg := lt_of_block hb
 obtain ⟨s, rfl⟩ : ∃ s, v = .el s := by cases v <;> first | exact ⟨_, rfl⟩ | cases hty
 obtain ⟨q, rfl, hbv⟩ := id hv
 have d1 : w.cell? ⟨q, 1, none⟩ = some (.string (St s)) := block_cell hbv 1
 have lq := lt_of_block hbv
 by_cases hx : x = nm
 · subst hx
   have hr : (V.el s).turn (atF x f) (env.map (·.1)) (.name x) = .el (f s) := by simp [V.turn, atF]
   have hr2 : (V.el s).atE (env.map (·.1)) (.name x) x = [s] := by simp [V.atE, V.labs]
   rw [hr, hr2]
   have k : (x == x) = true := by simp
   have HK : Hid (∀ w1, Below w.heap.size w w1 -> Calls Tryz.prog 75 #[.string (St s), .pointer cp0] w1 fun e w' => e = .returned (.string (St (f s))) /\ I (acc ++ [s]) w' /\ Kp w1 w') := fun w1 h => hK s acc w1 hok (by simp only [V.nodes] at hal; omega) (hI _ _ _ hi h)
   have HQ : Hid (∀ w2, Below w.heap.size w w2 \/ True -> I (acc ++ [s]) w2 -> Kp w w2 -> MPost I w (.el (f s)) (acc ++ [s]) (.returned (.pointer (some ⟨w2.heap.size, 0, none⟩))) (w2.alloc (.cells #[.int .u8 101, .string (St (f s)), .pointer none, .pointer none] 88))) := fun w2 _ h1 h2 => ⟨_, rfl, ⟨_, rfl, block_new w2 _⟩, hI _ _ _ h1 (up1 w2 _), h2.trans (.up (up1 w2 _))⟩
   generalize MPost I w (.el (f s)) (acc ++ [s]) = Q at *
   generalize f s = fs at *
   clear hb he hv hs hbs hE hok hty hr hr2 hi hI hbv hK
   go_enter Tryz.func74, Tryz.ntmps74
   go_wp2_with (go_at_call 75; (with_reducible refine (HK.out _ (up1 w _)).mono ?_); rintro e w2 ⟨rfl, hi2, hk2⟩; have HI2 := Lib.hid hi2; have HK2 := Lib.hid ((Kp.up (up1 w _)).trans hk2); clear hi2 hk2)
   exact HQ.out _ (.inr trivial) HI2.out HK2.out
 · have hr : (V.el s).turn (atF nm f) (env.map (·.1)) (.name x) = .el s := by simp [V.turn, atF, hx]
   have hr2 : (V.el s).atE (env.map (·.1)) (.name x) nm = [] := by simp [V.atE, V.labs, hx]
   rw [hr, hr2, List.append_nil]
   have k : (x == nm) = false := St_ne hx
   have HQ : Hid (∀ w', Below w.heap.size w w' -> MPost I w (.el s) acc (.returned (.pointer (some ⟨q, 0, none⟩))) w') := fun w' h => ⟨q, rfl, hv.up h, hI _ _ _ hi h, .up h⟩
   generalize MPost I w (.el s) acc = Q at *
   clear hb he hv hs hbs hE hok hty hr hr2 hi hI hbv hK hx
   go_enter Tryz.func74, Tryz.ntmps74
   go_wp2_with fail
   exact HQ.out _ (up1 w _)
theorem mapV_sum (I : List (List UInt8) -> World -> Prop) (hI : ∀ acc w w', I acc w -> Below w.heap.size w w' -> I acc w') (f : List UInt8 -> List UInt8) (nm : List UInt8) (cp0 : Option Addr) (n : Int) (v : V) (a b : Ty) (hsub : ∀ v' : V, v'.nodes < v.nodes -> ∀ t, MElV I f nm cp0 n v' t) : MElV I f nm cp0 n v (.sum a b) := by
 rintro env w p pe pv acc hi ⟨pa, pb, ⟨g, rfl, hb⟩, ha, hb'⟩ he hv hs hbs hE hok hty hal
 have c0 : w.cell? ⟨g, 0, none⟩ = some (.int .u8 43) := block_cell hb 0
 have lg := lt_of_block hb
 by_cases hl : ∃ x, v = .l x
 · obtain ⟨x, rfl⟩ := hl
   obtain ⟨px, ⟨gv, rfl, hbv⟩, hx⟩ := hv
   have hs0 : ∀ w', Kp (w.alloc (.cells #[.pointer (some ⟨g, 0, none⟩), .pointer pe] 71)) w' -> w'.cell? ⟨w.heap.size, 0, none⟩ = some (.pointer (some ⟨g, 0, none⟩)) /\ w'.cell? ⟨w.heap.size, 1, none⟩ = some (.pointer pe) /\ w'.cell? ⟨gv, 0, none⟩ = some (.int .u8 108) /\ w'.cell? ⟨gv, 2, none⟩ = some (.pointer px) := fun w' h => ⟨block_cell (h.cl _ _ _ (block_new w _)) 0, block_cell (h.cl _ _ _ (block_new w _)) 1, block_cell (h.vl _ _ _ (block_up (up1 w _) hbv)) 0, block_cell (h.vl _ _ _ (block_up (up1 w _) hbv)) 2⟩
   have HS := Lib.hid hs0
   have d0 : w.cell? ⟨gv, 0, none⟩ = some (.int .u8 108) := block_cell hbv 0
   obtain ⟨s0, s1, s2, s3⟩ := HS.out _ (.refl _)
   have lgv := lt_of_block hbv
   have HL : Hid (∀ w1, Kp w w1 -> Calls Tryz.prog 111 #[.agg #[.pointer (some ⟨g, 0, none⟩), .pointer pe]] w1 fun e w' => e = .returned (.agg #[.pointer pa, .pointer pe]) /\ Below w1.heap.size w1 w') := fun w1 h => left_any g 43 [] 0 pa pb pe w1 (h.ty _ _ _ hb)
   have HC : Hid (∀ w1, Kp w w1 -> I acc w1 -> Calls Tryz.prog 74 #[.agg #[.pointer pa, .pointer pe], .pointer px, .string (St nm), .func (.func 75) #[] #[.pointer cp0]] w1 (MPost I w1 (x.turn (atF nm f) (env.map (·.1)) a) (acc ++ x.atE (env.map (·.1)) a nm))) := fun w1 h h2 => hsub x (by simp only [V.nodes]; omega) a env w1 pa pe px acc h2 (ha.keep h.ty) (he.kp h) (hx.keep h.vl) hs.1 hbs.1 hE hok hty (by simp only [V.nodes] at hal; omega)
   have HI0 : Hid (∀ w1, Below w.heap.size w w1 -> I acc w1) := fun w1 h => hI _ _ _ hi h
   have HII : Hid (∀ acc w w', I acc w -> Below w.heap.size w w' -> I acc w') := hI
   have hr : (V.l x).turn (atF nm f) (env.map (·.1)) (.sum a b) = .l (x.turn (atF nm f) (env.map (·.1)) a) := rfl
   have hr2 : (V.l x).atE (env.map (·.1)) (.sum a b) nm = x.atE (env.map (·.1)) a nm := rfl
   rw [hr, hr2]
   generalize x.turn (atF nm f) (env.map (·.1)) a = x' at *
   generalize acc ++ x.atE (env.map (·.1)) a nm = acc' at *
   have HQ : Hid (∀ w3 q3 g3, VAt w3 x' (some ⟨q3, 0, none⟩) -> w3.heap[g3]? = some (.cells #[.int .u8 108, .string (St []), .pointer (some ⟨q3, 0, none⟩), .pointer none] 88 (0, 0)) -> I acc' w3 -> Kp w w3 -> MPost I w (.l x') acc' (.returned (.pointer (some ⟨g3, 0, none⟩))) w3) := fun w3 q3 g3 h1 h2 h3 h4 => ⟨g3, rfl, ⟨_, ⟨g3, rfl, h2⟩, h1⟩, h3, h4⟩
   generalize hMP : MPost I w (.l x') acc' = Q at *
   clear hb ha hb' he hx hs hbs hE hok hty hsub hr hr2 hi hI hbv hs0 hMP
   go_enter Tryz.func74, Tryz.ntmps74
   go_wp2
   refine wp_region_noPanic ?_
   refine wp_region_held_drew (S := (fun w' => w'.cell? ⟨w.heap.size, 0, none⟩ = some (.pointer (some ⟨g, 0, none⟩)) /\ w'.cell? ⟨w.heap.size, 1, none⟩ = some (.pointer pe) /\ w'.cell? ⟨gv, 0, none⟩ = some (.int .u8 108) /\ w'.cell? ⟨gv, 2, none⟩ = some (.pointer px))) (by kernel_rfl) (by exact HS.out _ (.up (up_drew (Below.refl _ _)))) (fun hHeld => ?_)
   refine tq 0 rfl ?_
   refine tq 2 rfl ?_
   refine tq 3 rfl ?_
   refine tq 4 rfl ?_
   refine tq 5 rfl ?_
   refine tq 6 rfl ?_
   refine tq 7 rfl ?_
   refine tz 1 rfl fun K hK => ?_
   go_simp
   go_at_call 111
   (with_reducible refine (HL.out _ (.up (up_drew (up1 w _)))).mono ?_)
   rintro e w1 ⟨rfl, hb1⟩
   have B1 : Hid (Below (w.alloc (.cells #[.pointer (some ⟨g, 0, none⟩), .pointer pe] 71)).heap.size (w.alloc (.cells #[.pointer (some ⟨g, 0, none⟩), .pointer pe] 71)) w1) := up_trans (up_drew (Below.refl _ _)) hb1
   have K1 : Hid (Kp (w.alloc (.cells #[.pointer (some ⟨g, 0, none⟩), .pointer pe] 71)) w1) := .up B1.out
   clear hb1
   refine hK.out _ _ (by exact HS.out _ K1.out) (fun hHeld => ?_)
   clear hK
   try simp only [Act.put, zA, zB, zC, zD, zE, zF]
   refine tz 8 rfl fun K hK => ?_
   go_simp
   go_at_call 74
   (with_reducible refine (HC.out _ (.up (up_trans (up1 w _) B1.out)) (HI0.out _ (up_trans (up1 w _) B1.out))).mono ?_)
   rintro e w2 ⟨q2, rfl, hv2, hi2, hk2⟩
   have K2 : Hid (Kp (w.alloc (.cells #[.pointer (some ⟨g, 0, none⟩), .pointer pe] 71)) w2) := K1.out.trans hk2
   have HV2 := Lib.hid hv2
   have HI2 := Lib.hid hi2
   clear hk2 hv2 hi2
   refine hK.out _ _ (by exact HS.out _ K2.out) (fun hHeld => ?_)
   clear hK
   try simp only [Act.put, zA, zB, zC, zD, zE, zF]
   refine tz 9 rfl fun K hK => ?_
   go_simp
   go_at_call 114
   (with_reducible refine (with_any 108 (some ⟨q2, 0, none⟩) _).mono ?_)
   rintro e w3 ⟨g3, rfl, hg3, hb3⟩
   have K3 : Hid (Kp (w.alloc (.cells #[.pointer (some ⟨g, 0, none⟩), .pointer pe] 71)) w3) := K2.out.trans (.up hb3)
   have HV3 := Lib.hid (HV2.out.up hb3)
   have HI3 := Lib.hid (HII.out _ _ _ HI2.out hb3)
   have HG3 := Lib.hid hg3
   clear hg3 hb3
   refine hK.out _ _ (by exact HS.out _ K3.out) (fun hHeld => ?_)
   clear hK
   try simp only [Act.put, zA, zB, zC, zD, zE, zF]
   refine tq 10 rfl ?_
   refine wpAnyH_done (by kernel_rfl) ?_ _
   refine NoPanic.normal ?_
   all_goals go_wp2
   all_goals exact HQ.out _ _ _ HV3.out HG3.out HI3.out ((Kp.up (up1 w _)).trans K3.out)
 · obtain ⟨x, rfl⟩ : ∃ x, v = .r x := by cases v <;> first | exact ⟨_, rfl⟩ | cases hty | exact absurd ⟨_, rfl⟩ hl
   clear hl
   obtain ⟨px, ⟨gv, rfl, hbv⟩, hx⟩ := hv
   have hs0 : ∀ w', Kp (w.alloc (.cells #[.pointer (some ⟨g, 0, none⟩), .pointer pe] 71)) w' -> w'.cell? ⟨w.heap.size, 0, none⟩ = some (.pointer (some ⟨g, 0, none⟩)) /\ w'.cell? ⟨w.heap.size, 1, none⟩ = some (.pointer pe) /\ w'.cell? ⟨gv, 0, none⟩ = some (.int .u8 114) /\ w'.cell? ⟨gv, 2, none⟩ = some (.pointer px) := fun w' h => ⟨block_cell (h.cl _ _ _ (block_new w _)) 0, block_cell (h.cl _ _ _ (block_new w _)) 1, block_cell (h.vl _ _ _ (block_up (up1 w _) hbv)) 0, block_cell (h.vl _ _ _ (block_up (up1 w _) hbv)) 2⟩
   have HS := Lib.hid hs0
   have d0 : w.cell? ⟨gv, 0, none⟩ = some (.int .u8 114) := block_cell hbv 0
   obtain ⟨s0, s1, s2, s3⟩ := HS.out _ (.refl _)
   have lgv := lt_of_block hbv
   have HL : Hid (∀ w1, Kp w w1 -> Calls Tryz.prog 112 #[.agg #[.pointer (some ⟨g, 0, none⟩), .pointer pe]] w1 fun e w' => e = .returned (.agg #[.pointer pb, .pointer pe]) /\ Below w1.heap.size w1 w') := fun w1 h => right_any g 43 [] 0 pa pb pe w1 (h.ty _ _ _ hb)
   have HC : Hid (∀ w1, Kp w w1 -> I acc w1 -> Calls Tryz.prog 74 #[.agg #[.pointer pb, .pointer pe], .pointer px, .string (St nm), .func (.func 75) #[] #[.pointer cp0]] w1 (MPost I w1 (x.turn (atF nm f) (env.map (·.1)) b) (acc ++ x.atE (env.map (·.1)) b nm))) := fun w1 h h2 => hsub x (by simp only [V.nodes]; omega) b env w1 pb pe px acc h2 (hb'.keep h.ty) (he.kp h) (hx.keep h.vl) hs.2 hbs.2 hE hok hty (by simp only [V.nodes] at hal; omega)
   have HI0 : Hid (∀ w1, Below w.heap.size w w1 -> I acc w1) := fun w1 h => hI _ _ _ hi h
   have HII : Hid (∀ acc w w', I acc w -> Below w.heap.size w w' -> I acc w') := hI
   have hr : (V.r x).turn (atF nm f) (env.map (·.1)) (.sum a b) = .r (x.turn (atF nm f) (env.map (·.1)) b) := rfl
   have hr2 : (V.r x).atE (env.map (·.1)) (.sum a b) nm = x.atE (env.map (·.1)) b nm := rfl
   rw [hr, hr2]
   generalize x.turn (atF nm f) (env.map (·.1)) b = x' at *
   generalize acc ++ x.atE (env.map (·.1)) b nm = acc' at *
   have HQ : Hid (∀ w3 q3 g3, VAt w3 x' (some ⟨q3, 0, none⟩) -> w3.heap[g3]? = some (.cells #[.int .u8 114, .string (St []), .pointer (some ⟨q3, 0, none⟩), .pointer none] 88 (0, 0)) -> I acc' w3 -> Kp w w3 -> MPost I w (.r x') acc' (.returned (.pointer (some ⟨g3, 0, none⟩))) w3) := fun w3 q3 g3 h1 h2 h3 h4 => ⟨g3, rfl, ⟨_, ⟨g3, rfl, h2⟩, h1⟩, h3, h4⟩
   generalize hMP : MPost I w (.r x') acc' = Q at *
   clear hb ha hb' he hx hs hbs hE hok hty hsub hr hr2 hi hI hbv hs0 hMP
   go_enter Tryz.func74, Tryz.ntmps74
   go_wp2
   refine wp_region_noPanic ?_
   refine wp_region_held_drew (S := (fun w' => w'.cell? ⟨w.heap.size, 0, none⟩ = some (.pointer (some ⟨g, 0, none⟩)) /\ w'.cell? ⟨w.heap.size, 1, none⟩ = some (.pointer pe) /\ w'.cell? ⟨gv, 0, none⟩ = some (.int .u8 114) /\ w'.cell? ⟨gv, 2, none⟩ = some (.pointer px))) (by kernel_rfl) (by exact HS.out _ (.up (up_drew (Below.refl _ _)))) (fun hHeld => ?_)
   refine tq 0 rfl ?_
   refine tq 2 rfl ?_
   refine tq 3 rfl ?_
   refine tq 4 rfl ?_
   refine tq 5 rfl ?_
   refine tq 6 rfl ?_
   refine tq 7 rfl ?_
   refine tz 1 rfl fun K hK => ?_
   go_simp
   go_at_call 112
   (with_reducible refine (HL.out _ (.up (up_drew (up1 w _)))).mono ?_)
   rintro e w1 ⟨rfl, hb1⟩
   have B1 : Hid (Below (w.alloc (.cells #[.pointer (some ⟨g, 0, none⟩), .pointer pe] 71)).heap.size (w.alloc (.cells #[.pointer (some ⟨g, 0, none⟩), .pointer pe] 71)) w1) := up_trans (up_drew (Below.refl _ _)) hb1
   have K1 : Hid (Kp (w.alloc (.cells #[.pointer (some ⟨g, 0, none⟩), .pointer pe] 71)) w1) := .up B1.out
   clear hb1
   refine hK.out _ _ (by exact HS.out _ K1.out) (fun hHeld => ?_)
   clear hK
   try simp only [Act.put, zA, zB, zC, zD, zE, zF]
   refine tz 8 rfl fun K hK => ?_
   go_simp
   go_at_call 74
   (with_reducible refine (HC.out _ (.up (up_trans (up1 w _) B1.out)) (HI0.out _ (up_trans (up1 w _) B1.out))).mono ?_)
   rintro e w2 ⟨q2, rfl, hv2, hi2, hk2⟩
   have K2 : Hid (Kp (w.alloc (.cells #[.pointer (some ⟨g, 0, none⟩), .pointer pe] 71)) w2) := K1.out.trans hk2
   have HV2 := Lib.hid hv2
   have HI2 := Lib.hid hi2
   clear hk2 hv2 hi2
   refine hK.out _ _ (by exact HS.out _ K2.out) (fun hHeld => ?_)
   clear hK
   try simp only [Act.put, zA, zB, zC, zD, zE, zF]
   refine tz 9 rfl fun K hK => ?_
   go_simp
   go_at_call 114
   (with_reducible refine (with_any 114 (some ⟨q2, 0, none⟩) _).mono ?_)
   rintro e w3 ⟨g3, rfl, hg3, hb3⟩
   have K3 : Hid (Kp (w.alloc (.cells #[.pointer (some ⟨g, 0, none⟩), .pointer pe] 71)) w3) := K2.out.trans (.up hb3)
   have HV3 := Lib.hid (HV2.out.up hb3)
   have HI3 := Lib.hid (HII.out _ _ _ HI2.out hb3)
   have HG3 := Lib.hid hg3
   clear hg3 hb3
   refine hK.out _ _ (by exact HS.out _ K3.out) (fun hHeld => ?_)
   clear hK
   try simp only [Act.put, zA, zB, zC, zD, zE, zF]
   refine tq 10 rfl ?_
   refine wpAnyH_done (by kernel_rfl) ?_ _
   refine NoPanic.normal ?_
   all_goals go_wp2
   all_goals exact HQ.out _ _ _ HV3.out HG3.out HI3.out ((Kp.up (up1 w _)).trans K3.out)
theorem mapV_prod (I : List (List UInt8) -> World -> Prop) (hI : ∀ acc w w', I acc w -> Below w.heap.size w w' -> I acc w') (f : List UInt8 -> List UInt8) (nm : List UInt8) (cp0 : Option Addr) (n : Int) (v : V) (a b : Ty) (hsub : ∀ v' : V, v'.nodes < v.nodes -> ∀ t, MElV I f nm cp0 n v' t) : MElV I f nm cp0 n v (.prod a b) := by
 rintro env w p pe pv acc hi ⟨pa, pb, ⟨g, rfl, hb⟩, ha, hb'⟩ he hv hs hbs hE hok hty hal
 have c0 : w.cell? ⟨g, 0, none⟩ = some (.int .u8 42) := block_cell hb 0
 have lg := lt_of_block hb
 obtain ⟨x, y, rfl⟩ : ∃ x y, v = .p x y := by cases v <;> first | exact ⟨_, _, rfl⟩ | cases hty
 have hty1 : x.isOf n (env.map (·.1)) a = true /\ y.isOf n (env.map (·.1)) b = true := by simpa [V.isOf] using hty
 obtain ⟨px, py, ⟨gv, rfl, hbv⟩, hx, hy⟩ := hv
 have hs0 : ∀ w', Kp (w.alloc (.cells #[.pointer (some ⟨g, 0, none⟩), .pointer pe] 71)) w' -> w'.cell? ⟨w.heap.size, 0, none⟩ = some (.pointer (some ⟨g, 0, none⟩)) /\ w'.cell? ⟨w.heap.size, 1, none⟩ = some (.pointer pe) /\ w'.cell? ⟨gv, 2, none⟩ = some (.pointer px) /\ w'.cell? ⟨gv, 3, none⟩ = some (.pointer py) := fun w' h => ⟨block_cell (h.cl _ _ _ (block_new w _)) 0, block_cell (h.cl _ _ _ (block_new w _)) 1, block_cell (h.vl _ _ _ (block_up (up1 w _) hbv)) 2, block_cell (h.vl _ _ _ (block_up (up1 w _) hbv)) 3⟩
 have HS := Lib.hid hs0
 obtain ⟨s0, s1, s2, s3⟩ := HS.out _ (.refl _)
 have lgv := lt_of_block hbv
 have HL : Hid (∀ w1, Kp w w1 -> Calls Tryz.prog 111 #[.agg #[.pointer (some ⟨g, 0, none⟩), .pointer pe]] w1 fun e w' => e = .returned (.agg #[.pointer pa, .pointer pe]) /\ Below w1.heap.size w1 w') := fun w1 h => left_any g 42 [] 0 pa pb pe w1 (h.ty _ _ _ hb)
 have HR : Hid (∀ w1, Kp w w1 -> Calls Tryz.prog 112 #[.agg #[.pointer (some ⟨g, 0, none⟩), .pointer pe]] w1 fun e w' => e = .returned (.agg #[.pointer pb, .pointer pe]) /\ Below w1.heap.size w1 w') := fun w1 h => right_any g 42 [] 0 pa pb pe w1 (h.ty _ _ _ hb)
 have hr : (V.p x y).turn (atF nm f) (env.map (·.1)) (.prod a b) = .p (x.turn (atF nm f) (env.map (·.1)) a) (y.turn (atF nm f) (env.map (·.1)) b) := rfl
 have hr2 : acc ++ (V.p x y).atE (env.map (·.1)) (.prod a b) nm = (acc ++ x.atE (env.map (·.1)) a nm) ++ y.atE (env.map (·.1)) b nm := by simp [V.atE, V.labs]
 rw [hr, hr2]
 have HC : Hid (∀ w1, Kp w w1 -> I acc w1 -> Calls Tryz.prog 74 #[.agg #[.pointer pa, .pointer pe], .pointer px, .string (St nm), .func (.func 75) #[] #[.pointer cp0]] w1 (MPost I w1 (x.turn (atF nm f) (env.map (·.1)) a) (acc ++ x.atE (env.map (·.1)) a nm))) := fun w1 h h2 => hsub x (by simp only [V.nodes]; omega) a env w1 pa pe px acc h2 (ha.keep h.ty) (he.kp h) (hx.keep h.vl) hs.1 hbs.1 hE hok.1 hty1.1 (by simp only [V.nodes] at hal; omega)
 have HC2 : Hid (∀ w1 acc2, acc2.length + y.nodes <= 1000000 -> Kp w w1 -> I acc2 w1 -> Calls Tryz.prog 74 #[.agg #[.pointer pb, .pointer pe], .pointer py, .string (St nm), .func (.func 75) #[] #[.pointer cp0]] w1 (MPost I w1 (y.turn (atF nm f) (env.map (·.1)) b) (acc2 ++ y.atE (env.map (·.1)) b nm))) := fun w1 acc2 h9 h h2 => hsub y (by simp only [V.nodes]; omega) b env w1 pb pe py acc2 h2 (hb'.keep h.ty) (he.kp h) (hy.keep h.vl) hs.2 hbs.2 hE hok.2 hty1.2 h9
 have HI0 : Hid (∀ w1, Below w.heap.size w w1 -> I acc w1) := fun w1 h => hI _ _ _ hi h
 have HII : Hid (∀ acc w w', I acc w -> Below w.heap.size w w' -> I acc w') := hI
 have hal2 : (acc ++ x.atE (env.map (·.1)) a nm).length + y.nodes <= 1000000 := by
  have := atE_len (nm := nm) hty1.1
  simp only [V.nodes] at hal
  simp only [List.length_append]
  omega
 generalize acc ++ x.atE (env.map (·.1)) a nm = acc' at *
 replace HC2 := Lib.hid fun w1 => HC2.out w1 acc' hal2
 generalize x.turn (atF nm f) (env.map (·.1)) a = x' at *
 generalize y.turn (atF nm f) (env.map (·.1)) b = y' at *
 generalize acc' ++ y.atE (env.map (·.1)) b nm = acc'' at *
 have HQ : Hid (∀ w3 q2 q3 g3, VAt w3 x' (some ⟨q2, 0, none⟩) -> VAt w3 y' (some ⟨q3, 0, none⟩) -> w3.heap[g3]? = some (.cells #[.int .u8 112, .string (St []), .pointer (some ⟨q2, 0, none⟩), .pointer (some ⟨q3, 0, none⟩)] 88 (0, 0)) -> I acc'' w3 -> Kp w w3 -> MPost I w (.p x' y') acc'' (.returned (.pointer (some ⟨g3, 0, none⟩))) w3) := fun w3 q2 q3 g3 h1 h2 h3 h4 h5 => ⟨g3, rfl, ⟨_, _, ⟨g3, rfl, h3⟩, h1, h2⟩, h4, h5⟩
 generalize hMP : MPost I w (.p x' y') acc'' = Q at *
 clear hal hal2 hb ha hb' he hx hy hs hbs hE hok hty hty1 hsub hr hr2 hi hI hbv hs0 hMP
 go_enter Tryz.func74, Tryz.ntmps74
 go_wp2
 refine wp_region_noPanic ?_
 refine wp_region_held_drew (S := (fun w' => w'.cell? ⟨w.heap.size, 0, none⟩ = some (.pointer (some ⟨g, 0, none⟩)) /\ w'.cell? ⟨w.heap.size, 1, none⟩ = some (.pointer pe) /\ w'.cell? ⟨gv, 2, none⟩ = some (.pointer px) /\ w'.cell? ⟨gv, 3, none⟩ = some (.pointer py))) (by kernel_rfl) (by exact HS.out _ (.up (up_drew (Below.refl _ _)))) (fun hHeld => ?_)
 refine tq 0 rfl ?_
 refine tq 2 rfl ?_
 refine tq 3 rfl ?_
 refine tq 4 rfl ?_
 refine tq 5 rfl ?_
 refine tq 6 rfl ?_
 refine tq 7 rfl ?_
 refine tz 1 rfl fun K hK => ?_
 go_simp
 go_at_call 111
 (with_reducible refine (HL.out _ (.up (up_drew (up1 w _)))).mono ?_)
 rintro e w1 ⟨rfl, hb1⟩
 have B1 : Hid (Below (w.alloc (.cells #[.pointer (some ⟨g, 0, none⟩), .pointer pe] 71)).heap.size (w.alloc (.cells #[.pointer (some ⟨g, 0, none⟩), .pointer pe] 71)) w1) := up_trans (up_drew (Below.refl _ _)) hb1
 have K1 : Hid (Kp (w.alloc (.cells #[.pointer (some ⟨g, 0, none⟩), .pointer pe] 71)) w1) := .up B1.out
 clear hb1
 refine hK.out _ _ (by exact HS.out _ K1.out) (fun hHeld => ?_)
 clear hK
 try simp only [Act.put, zA, zB, zC, zD, zE, zF]
 refine tz 8 rfl fun K hK => ?_
 go_simp
 go_at_call 74
 (with_reducible refine (HC.out _ (.up (up_trans (up1 w _) B1.out)) (HI0.out _ (up_trans (up1 w _) B1.out))).mono ?_)
 rintro e w2 ⟨q2, rfl, hv2, hi2, hk2⟩
 have K2 : Hid (Kp (w.alloc (.cells #[.pointer (some ⟨g, 0, none⟩), .pointer pe] 71)) w2) := K1.out.trans hk2
 have HV2 := Lib.hid hv2
 have HI2 := Lib.hid hi2
 clear hk2 hv2 hi2
 refine hK.out _ _ (by exact HS.out _ K2.out) (fun hHeld => ?_)
 clear hK
 try simp only [Act.put, zA, zB, zC, zD, zE, zF]
 refine tq 9 rfl ?_
 refine wpAnyH_done (by kernel_rfl) ?_ _
 refine NoPanic.normal ?_
 go_wp2
 refine wp_region_noPanic ?_
 refine wp_region_held_drew (S := (fun w' => w'.cell? ⟨w.heap.size, 0, none⟩ = some (.pointer (some ⟨g, 0, none⟩)) /\ w'.cell? ⟨w.heap.size, 1, none⟩ = some (.pointer pe) /\ w'.cell? ⟨gv, 2, none⟩ = some (.pointer px) /\ w'.cell? ⟨gv, 3, none⟩ = some (.pointer py))) (by kernel_rfl) (by exact HS.out _ (K2.out.trans (.up (up_drew (Below.refl _ _))))) (fun hHeld => ?_)
 refine tq 0 rfl ?_
 refine tq 1 rfl ?_
 refine tq 3 rfl ?_
 refine tq 4 rfl ?_
 refine tq 5 rfl ?_
 refine tq 6 rfl ?_
 refine tq 7 rfl ?_
 refine tq 8 rfl ?_
 refine tz 2 rfl fun K hK => ?_
 go_simp
 go_at_call 112
 (with_reducible refine (HR.out _ ((Kp.up (up1 w _)).trans (K2.out.trans (.up (up_drew (Below.refl _ _)))))).mono ?_)
 rintro e w4 ⟨rfl, hb4⟩
 have B4 : Hid (Below w2.heap.size w2 w4) := up_trans (up_drew (Below.refl _ _)) hb4
 have K4 : Hid (Kp (w.alloc (.cells #[.pointer (some ⟨g, 0, none⟩), .pointer pe] 71)) w4) := K2.out.trans (.up B4.out)
 have HI4 := Lib.hid (HII.out _ _ _ HI2.out B4.out)
 have HV4 := Lib.hid (HV2.out.up B4.out)
 clear hb4
 refine hK.out _ _ (by exact HS.out _ K4.out) (fun hHeld => ?_)
 clear hK
 try simp only [Act.put, zA, zB, zC, zD, zE, zF]
 refine tz 9 rfl fun K hK => ?_
 go_simp
 go_at_call 74
 (with_reducible refine (HC2.out _ ((Kp.up (up1 w _)).trans K4.out) HI4.out).mono ?_)
 rintro e w5 ⟨q5, rfl, hv5, hi5, hk5⟩
 have K5 : Hid (Kp (w.alloc (.cells #[.pointer (some ⟨g, 0, none⟩), .pointer pe] 71)) w5) := K4.out.trans hk5
 have HV5 := Lib.hid hv5
 have HI5 := Lib.hid hi5
 have HV45 := Lib.hid (HV4.out.keep hk5.vl)
 clear hk5 hv5 hi5
 refine hK.out _ _ (by exact HS.out _ K5.out) (fun hHeld => ?_)
 clear hK
 try simp only [Act.put, zA, zB, zC, zD, zE, zF]
 refine tz 10 rfl fun K hK => ?_
 go_simp
 go_at_call 116
 (with_reducible refine (mkpair_any (some ⟨q2, 0, none⟩) (some ⟨q5, 0, none⟩) _).mono ?_)
 rintro e w6 ⟨g6, rfl, hg6, hb6⟩
 have K6 : Hid (Kp (w.alloc (.cells #[.pointer (some ⟨g, 0, none⟩), .pointer pe] 71)) w6) := K5.out.trans (.up hb6)
 have HVA := Lib.hid (HV45.out.up hb6)
 have HVB := Lib.hid (HV5.out.up hb6)
 have HI6 := Lib.hid (HII.out _ _ _ HI5.out hb6)
 have HG6 := Lib.hid hg6
 clear hg6 hb6
 refine hK.out _ _ (by exact HS.out _ K6.out) (fun hHeld => ?_)
 clear hK
 try simp only [Act.put, zA, zB, zC, zD, zE, zF]
 refine tq 11 rfl ?_
 refine wpAnyH_done (by kernel_rfl) ?_ _
 refine NoPanic.normal ?_
 all_goals go_wp2
 all_goals exact HQ.out _ _ _ _ HVA.out HVB.out HG6.out HI6.out ((Kp.up (up1 w _)).trans K6.out)
theorem mapV_loop (I : List (List UInt8) -> World -> Prop) (hI : ∀ acc w w', I acc w -> Below w.heap.size w w' -> I acc w') (f : List UInt8 -> List UInt8) (nm : List UInt8) (cp0 : Option Addr) (n : Int) (v : V) (a : Ty) (hsub : ∀ v' : V, v'.nodes < v.nodes -> ∀ t, MElV I f nm cp0 n v' t) : MElV I f nm cp0 n v (.loop a) := by
 rintro env w p pe pv acc hi ht he hv hs hbs hE hok hty hal
 obtain ⟨pa, ⟨g, rfl, hb⟩, ha⟩ := id ht
 have c0 : w.cell? ⟨g, 0, none⟩ = some (.int .u8 114) := block_cell hb 0
 have lg := lt_of_block hb
 obtain ⟨x, rfl⟩ : ∃ x, v = .f x := by cases v <;> first | exact ⟨_, rfl⟩ | cases hty
 obtain ⟨px, ⟨gv, rfl, hbv⟩, hx⟩ := hv
 have HIN : Hid (∀ w1, Below w.heap.size w w1 -> Calls Tryz.prog 118 #[.agg #[.pointer (some ⟨g, 0, none⟩), .pointer pe]] w1 (InPost w1 (.loop a) pa env)) := fun w1 h => inside_any g 114 [] 0 pa none pe w1 (.loop a) env (block_up h hb) (ht.up h) (he.up h)
 have HC : Hid (∀ w1 f' g', Kp w w1 -> I acc w1 -> FAt w1 ((.loop a, f') :: env) (some ⟨g', 0, none⟩) -> Calls Tryz.prog 74 #[.agg #[.pointer pa, .pointer (some ⟨g', 0, none⟩)], .pointer px, .string (St nm), .func (.func 75) #[] #[.pointer cp0]] w1 (MPost I w1 (x.turn (atF nm f) (.loop a :: env.map (·.1)) a) (acc ++ x.atE (.loop a :: env.map (·.1)) a nm))) := fun w1 f' g' h h2 hf => hsub x (by simp only [V.nodes]; omega) a ((.loop a, f') :: env) w1 pa (some ⟨g', 0, none⟩) px acc h2 (ha.keep h.ty) hf (hx.keep h.vl) hs hbs (hE.cons hs hbs) hok hty (by simp only [V.nodes] at hal; omega)
 have HV : Hid (∀ w', Kp w w' -> w'.cell? ⟨gv, 2, none⟩ = some (.pointer px)) := fun w' h => block_cell (h.vl _ _ _ hbv) 2
 have HI0 : Hid (∀ w1, Below w.heap.size w w1 -> I acc w1) := fun w1 h => hI _ _ _ hi h
 have HII : Hid (∀ acc w w', I acc w -> Below w.heap.size w w' -> I acc w') := hI
 have hr : (V.f x).turn (atF nm f) (env.map (·.1)) (.loop a) = .f (x.turn (atF nm f) (.loop a :: env.map (·.1)) a) := rfl
 have hr2 : (V.f x).atE (env.map (·.1)) (.loop a) nm = x.atE (.loop a :: env.map (·.1)) a nm := rfl
 rw [hr, hr2]
 generalize x.turn (atF nm f) (.loop a :: env.map (·.1)) a = x' at *
 generalize acc ++ x.atE (.loop a :: env.map (·.1)) a nm = acc' at *
 have HQ : Hid (∀ w3 q3 g3, VAt w3 x' (some ⟨q3, 0, none⟩) -> w3.heap[g3]? = some (.cells #[.int .u8 102, .string (St []), .pointer (some ⟨q3, 0, none⟩), .pointer none] 88 (0, 0)) -> I acc' w3 -> Kp w w3 -> MPost I w (.f x') acc' (.returned (.pointer (some ⟨g3, 0, none⟩))) w3) := fun w3 q3 g3 h1 h2 h3 h4 => ⟨g3, rfl, ⟨_, ⟨g3, rfl, h2⟩, h1⟩, h3, h4⟩
 generalize hMP : MPost I w (.f x') acc' = Q at *
 clear hb ha he hx hs hbs hE hok hty hsub hr hr2 hi hI hbv hMP ht
 go_enter Tryz.func74, Tryz.ntmps74
 go_wp2_with (go_at_call 118; (with_reducible refine (HIN.out _ (up1 w _)).mono ?_); rintro e w1 ⟨f', g', rfl, hf1, hf2, hF, hb1⟩; have HB1 := Lib.hid (up_trans (up1 w _) hb1); have HF := Lib.hid hF; clear hb1 hF hf1 hf2)
 have BW := up1 w1 (.cells #[.pointer pa, .pointer (some ⟨g', 0, none⟩)] 71)
 have CW := block_new w1 (.cells #[.pointer pa, .pointer (some ⟨g', 0, none⟩)] 71)
 generalize (w1.alloc (.cells #[.pointer pa, .pointer (some ⟨g', 0, none⟩)] 71)) = W1 at *
 have HBW : Hid (Below w.heap.size w W1) := up_trans HB1.out BW
 have HFW := Lib.hid (HF.out.up BW)
 have HS : Hid (∀ w', Kp W1 w' -> w'.cell? ⟨w1.heap.size, 0, none⟩ = some (.pointer pa) /\ w'.cell? ⟨w1.heap.size, 1, none⟩ = some (.pointer (some ⟨g', 0, none⟩)) /\ w'.cell? ⟨gv, 2, none⟩ = some (.pointer px)) := fun w' h => ⟨block_cell (h.cl _ _ _ CW) 0, block_cell (h.cl _ _ _ CW) 1, HV.out w' ((Kp.up HBW.out).trans h)⟩
 obtain ⟨e0, e1, e2⟩ := HS.out W1 (.refl _)
 clear BW CW
 refine wp_region_noPanic ?_
 refine wp_region_held_drew (S := (fun w' => w'.cell? ⟨w1.heap.size, 0, none⟩ = some (.pointer pa) /\ w'.cell? ⟨w1.heap.size, 1, none⟩ = some (.pointer (some ⟨g', 0, none⟩)) /\ w'.cell? ⟨gv, 2, none⟩ = some (.pointer px))) (by kernel_rfl) (by exact HS.out _ (.up (up_drew (Below.refl _ _)))) (fun hHeld => ?_)
 refine tq 0 rfl ?_
 refine tq 1 rfl ?_
 refine tq 2 rfl ?_
 refine tq 3 rfl ?_
 refine tq 4 rfl ?_
 refine tq 5 rfl ?_
 refine tq 6 rfl ?_
 refine tz 7 rfl fun K hK => ?_
 go_simp
 go_at_call 74
 (with_reducible refine (HC.out _ f' g' (.up (up_drew HBW.out)) (HI0.out _ (up_drew HBW.out)) (HFW.out.up (up_drew (Below.refl _ _)))).mono ?_)
 rintro e w2 ⟨q2, rfl, hv2, hi2, hk2⟩
 have K2 : Hid (Kp W1 w2) := (Kp.up (up_drew (Below.refl _ _))).trans hk2
 have HV2 := Lib.hid hv2
 have HI2 := Lib.hid hi2
 clear hk2 hv2 hi2
 refine hK.out _ _ (by exact HS.out _ K2.out) (fun hHeld => ?_)
 clear hK
 try simp only [Act.put, zA, zB, zC, zD, zE, zF]
 refine tz 8 rfl fun K hK => ?_
 go_simp
 go_at_call 114
 (with_reducible refine (with_any 102 (some ⟨q2, 0, none⟩) _).mono ?_)
 rintro e w3 ⟨g3, rfl, hg3, hb3⟩
 have K3 : Hid (Kp W1 w3) := K2.out.trans (.up hb3)
 have HV3 := Lib.hid (HV2.out.up hb3)
 have HI3 := Lib.hid (HII.out _ _ _ HI2.out hb3)
 have HG3 := Lib.hid hg3
 clear hg3 hb3
 refine hK.out _ _ (by exact HS.out _ K3.out) (fun hHeld => ?_)
 clear hK
 try simp only [Act.put, zA, zB, zC, zD, zE, zF]
 refine tq 9 rfl ?_
 refine wpAnyH_done (by kernel_rfl) ?_ _
 refine NoPanic.normal ?_
 all_goals go_wp2
 all_goals exact HQ.out _ _ _ HV3.out HG3.out HI3.out ((Kp.up HBW.out).trans K3.out)
theorem mapV_bound (I : List (List UInt8) -> World -> Prop) (hI : ∀ acc w w', I acc w -> Below w.heap.size w w' -> I acc w') (f : List UInt8 -> List UInt8) (nm : List UInt8) (cp0 : Option Addr) (n : Int) (v : V) (k : Nat) (hsub : ∀ v' : V, v'.nodes < v.nodes -> ∀ t, MElV I f nm cp0 n v' t) : MElV I f nm cp0 n v (.bound k) := by
 rintro env w p pe pv acc hi ⟨g, rfl, hb⟩ he hv hs hbs hE hok hty hal
 have c0 : w.cell? ⟨g, 0, none⟩ = some (.int .u8 98) := block_cell hb 0
 have lg := lt_of_block hb
 have hkl : k < env.length := hs
 obtain ⟨_, q, e, rest, pr, hd, hme, hfb, hte, hre, _⟩ := he.drop k hkl
 have HBd : Hid (∀ w1, Below w.heap.size w w1 -> Calls Tryz.prog 133 #[.agg #[.pointer (some ⟨g, 0, none⟩), .pointer pe]] w1 fun x w' => x = .returned (.pointer (some ⟨e.2, 0, none⟩)) /\ Below w1.heap.size w1 w') := fun w1 h => bound_any g 98 [] k none none env pe w1 (block_up h hb) (he.up h) hkl hbs e.2 ⟨e, rest, hd, rfl⟩
 have hE2 : (env.map (·.1)).drop k = e.1 :: rest.map (·.1) := by rw [<- List.map_drop, hd]; rfl
 obtain ⟨a, rest2, hd2, hsa, hEr⟩ := hE.1.drop k (by simpa using hkl)
 rw [hE2] at hd2
 injection hd2 with h1 h2
 have HF : Hid (∀ w1, Below w.heap.size w w1 -> w1.cell? ⟨e.2, 0, none⟩ = some (.pointer pr) /\ w1.cell? ⟨e.2, 1, none⟩ = some (.pointer q)) := fun w1 h => ⟨block_cell (block_up h hfb) 0, block_cell (block_up h hfb) 1⟩
 obtain ⟨x, rfl⟩ : ∃ x, v = .f x := by cases v <;> first | exact ⟨_, rfl⟩ | (exfalso; simp [V.isOf] at hty)
 have hr0 : (V.f x).isOf n (env.map (·.1)) (.bound k) = (V.f x).isOf n (rest.map (·.1)) (.loop a) := by
  simp only [V.isOf]
  rw [hE2, h1]
 have hr : (V.f x).turn (atF nm f) (env.map (·.1)) (.bound k) = (V.f x).turn (atF nm f) (rest.map (·.1)) (.loop a) := by
  simp only [V.turn]
  rw [hE2, h1]
 have hr2 : (V.f x).atE (env.map (·.1)) (.bound k) nm = (V.f x).atE (rest.map (·.1)) (.loop a) nm := by
  simp only [V.atE, V.labs]
  rw [hE2, h1]
 rw [hr0] at hty
 rw [hr, hr2]
 have HC : Hid (∀ w1, Below w.heap.size w w1 -> Calls Tryz.prog 74 #[.agg #[.pointer pr, .pointer q], .pointer pv, .string (St nm), .func (.func 75) #[] #[.pointer cp0]] w1 (MPost I w1 ((V.f x).turn (atF nm f) (rest.map (·.1)) (.loop a)) (acc ++ (V.f x).atE (rest.map (·.1)) (.loop a) nm))) := fun w1 h => mapV_loop I hI f nm cp0 n (.f x) a hsub rest w1 pr q pv acc (hI _ _ _ hi h) (by rw [<- h1]; exact hte.up h) (hre.up h) (hv.up h) (by
  have : a.scoped (rest2.length + 1) := hsa
  rw [<- h2] at this
  simpa [Ty.scoped] using this) (hE.2 (.loop a) (by rw [<- h1]; exact List.mem_map.2 ⟨e, hme, rfl⟩)) ⟨by rw [h2]; exact hEr, fun T hT => hE.2 T (by
   obtain ⟨e', he', rfl⟩ := List.mem_map.1 hT
   exact List.mem_map.2 ⟨e', List.mem_of_mem_drop (i := k) (by rw [hd]; exact List.mem_cons_of_mem _ he'), rfl⟩)⟩ hok hty hal
 have HQ : Hid (∀ w1 e' w', Below w.heap.size w w1 -> MPost I w1 ((V.f x).turn (atF nm f) (rest.map (·.1)) (.loop a)) (acc ++ (V.f x).atE (rest.map (·.1)) (.loop a) nm) e' w' -> ∃ g', e' = .returned (.pointer (some ⟨g', 0, none⟩)) /\ MPost I w ((V.f x).turn (atF nm f) (rest.map (·.1)) (.loop a)) (acc ++ (V.f x).atE (rest.map (·.1)) (.loop a) nm) (.returned (.pointer (some ⟨g', 0, none⟩))) w') := fun w1 e' w' h1 ⟨g', h2, h3, h4, h5⟩ => ⟨g', h2, g', rfl, h3, h4, (Kp.up h1).trans h5⟩
 generalize hv' : (V.f x).turn (atF nm f) (rest.map (·.1)) (.loop a) = v' at *
 generalize ha' : acc ++ (V.f x).atE (rest.map (·.1)) (.loop a) nm = acc' at *
 generalize hM : MPost I w v' acc' = Q at *
 generalize e.2 = ge at *
 clear hb he hv hs hbs hE hok hsub hkl hd hfb hte hre hE2 hsa hEr h1 h2 hr hr0 hr2 hty hi hI hM hv' ha'
 go_enter Tryz.func74, Tryz.ntmps74
 go_wp2_with (first
  | (go_at_call 133; (with_reducible refine (HBd.out _ (up1 w _)).mono ?_); rintro e w1 ⟨rfl, hb1⟩; have HB1 := Lib.hid (up_trans (up1 w _) hb1); obtain ⟨f0, f1⟩ := HF.out w1 HB1.out; clear hb1)
  | (go_at_call 74; (with_reducible refine (HC.out _ HB1.out).mono ?_); rintro e w2 hpost; obtain ⟨g2, rfl, hq2⟩ := HQ.out _ _ _ HB1.out hpost; have HQ2 := Lib.hid hq2; clear hpost hq2))
 exact HQ2.out
theorem mapV_any (I : List (List UInt8) -> World -> Prop) (hI : ∀ acc w w', I acc w -> Below w.heap.size w w' -> I acc w') (f : List UInt8 -> List UInt8) (nm : List UInt8) (cp0 : Option Addr) (n : Int) (hK : ∀ (s : List UInt8) (acc : List (List UInt8)) (w1 : World), elemB s = true -> acc.length < 1000000 -> I acc w1 -> Calls Tryz.prog 75 #[.string (St s), .pointer cp0] w1 fun e w' => e = .returned (.string (St (f s))) /\ I (acc ++ [s]) w' /\ Kp w1 w') : ∀ (N : Nat) (v : V), v.nodes <= N -> ∀ t : Ty, MElV I f nm cp0 n v t := by
 intro N
 induction N with
 | zero => intro v h; have : 1 <= v.nodes := by cases v <;> simp only [V.nodes] <;> omega
           omega
 | succ N ih =>
  intro v h t
  have hsub : ∀ v' : V, v'.nodes < v.nodes -> ∀ t, MElV I f nm cp0 n v' t := fun v' h' => ih v' (by omega)
  cases t with
  | zero => intro env w p pe pv acc hi ht he hv hs hbs hE hok hty hal; cases v <;> cases hty
  | one => exact mapV_one I hI f nm cp0 n v
  | name x => exact mapV_name I hI f nm cp0 n hK v x
  | bound k => exact mapV_bound I hI f nm cp0 n v k hsub
  | sum a b => exact mapV_sum I hI f nm cp0 n v a b hsub
  | prod a b => exact mapV_prod I hI f nm cp0 n v a b hsub
  | loop a => exact mapV_loop I hI f nm cp0 n v a hsub
end Go.Proofs.YtpokompplapkhaaGreatDoor

