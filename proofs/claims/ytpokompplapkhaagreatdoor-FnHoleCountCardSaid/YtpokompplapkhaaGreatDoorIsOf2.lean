/- The program's isOf, closedType, valueOf. -/
import Derived.Test.YtpokompplapkhaaGreatDoorIsOf
import Derived.Test.YtpokompplapkhaaGreatDoorTk
import Derived.Test.YtpokompplapkhaaGreatDoorNB
import Derived.Lib.AtoiErrMem
namespace Go.Proofs.YtpokompplapkhaaGreatDoor
set_option maxHeartbeats 4000000
set_option maxRecDepth 100000
open Go.RowKit
set_option linter.unusedVariables false
set_option linter.unusedSimpArgs false
def V.sg : V -> Int
 | .u => 117
 | .el _ => 101
 | .l _ => 108
 | .r _ => 114
 | .f _ => 102
 | .p _ _ => 112
theorem VAt.vn {w : World} : ∀ {v : V} {p : Option Addr}, VAt w v p -> ∃ g el pa pb, p = some ⟨g, 0, none⟩ /\ w.heap[g]? = some (.cells #[.int .u8 v.sg, .string (St el), .pointer pa, .pointer pb] 88 (0, 0))
 | .u, _, ⟨g, h1, h2⟩ => ⟨g, _, _, _, h1, h2⟩
 | .el _, _, ⟨g, h1, h2⟩ => ⟨g, _, _, _, h1, h2⟩
 | .l _, _, ⟨_, ⟨g, h1, h2⟩, _⟩ => ⟨g, _, _, _, h1, h2⟩
 | .r _, _, ⟨_, ⟨g, h1, h2⟩, _⟩ => ⟨g, _, _, _, h1, h2⟩
 | .f _, _, ⟨_, ⟨g, h1, h2⟩, _⟩ => ⟨g, _, _, _, h1, h2⟩
 | .p _ _, _, ⟨_, _, ⟨g, h1, h2⟩, _, _⟩ => ⟨g, _, _, _, h1, h2⟩
def Ty.bs : Ty -> Prop
 | .bound k => k <= 1000000
 | .sum a b => a.bs /\ b.bs
 | .prod a b => a.bs /\ b.bs
 | .loop a => a.bs
 | _ => True
theorem scoped_bs : ∀ (t : Ty) (k : Nat), t.scoped k -> k + t.atoms <= 1000000 -> t.bs
 | .zero, _, _, _ => trivial
 | .one, _, _, _ => trivial
 | .name _, _, _, _ => trivial
 | .bound j, k, h, h2 => by have h : j < k := h; show j <= 1000000; omega
 | .sum a b, k, h, h2 => by simp only [Ty.atoms] at h2; exact ⟨scoped_bs a k h.1 (by omega), scoped_bs b k h.2 (by omega)⟩
 | .prod a b, k, h, h2 => by simp only [Ty.atoms] at h2; exact ⟨scoped_bs a k h.1 (by omega), scoped_bs b k h.2 (by omega)⟩
 | .loop a, k, h, h2 => by simp only [Ty.atoms] at h2; exact scoped_bs a (k + 1) h (by omega)
def EnvG (env : List (Ty × Nat)) : Prop := EnvSc (env.map (·.1)) /\ ∀ T ∈ env.map (·.1), T.bs
theorem EnvG.nil : EnvG [] := ⟨trivial, fun T h => by cases h⟩
theorem EnvG.cons {env : List (Ty × Nat)} {a : Ty} {f : Nat} (h : EnvG env) (hs : (Ty.loop a).scoped env.length) (hb : a.bs) : EnvG ((.loop a, f) :: env) := by
 refine ⟨⟨⟨a, rfl, ?_⟩, h.1⟩, fun T hT => ?_⟩
 · rw [List.length_map]; exact hs
 · rcases List.mem_cons.1 hT with rfl | hT
   · exact hb
   · exact h.2 T hT
def IOf (v : V) (t : Ty) : Prop := ∀ (env : List (Ty × Nat)) (w : World) (p pe pv : Option Addr) (n : Int), TyAt w t p -> FAt w env pe -> VAt w v pv -> t.scoped env.length -> t.bs -> EnvG env -> v.ok ->
 Calls Tryz.prog 107 #[.agg #[.pointer p, .pointer pe], .pointer pv, .int .i64 n] w fun e w' => e = .returned (.bool (v.isOf n (env.map (·.1)) t)) /\ Below w.heap.size w w'
theorem isOf_zero (v : V) : IOf v .zero := by
 rintro env w p pe pv n ⟨g, rfl, hb⟩ he hv hs hbs hE hok
 have c0 : w.cell? ⟨g, 0, none⟩ = some (.int .u8 48) := block_cell hb 0
 have lg := lt_of_block hb
 have hr : v.isOf n (env.map (·.1)) .zero = false := by cases v <;> rfl
 rw [hr]
 clear hb he hv hs hbs hE hok hr
 go_enter Tryz.func107, Tryz.ntmps107
 go_wp2_with fail
 go_ret
 exact ⟨rfl, up1 w _⟩
theorem isOf_one (v : V) : IOf v .one := by
 rintro env w p pe pv n ⟨g, rfl, hb⟩ he hv hs hbs hE hok
 have c0 : w.cell? ⟨g, 0, none⟩ = some (.int .u8 49) := block_cell hb 0
 have lg := lt_of_block hb
 obtain ⟨gv, el, pa, pb, rfl, hbv⟩ := hv.vn
 have d0 : w.cell? ⟨gv, 0, none⟩ = some (.int .u8 v.sg) := block_cell hbv 0
 have lgv := lt_of_block hbv
 have hr : v.isOf n (env.map (·.1)) .one = (v.sg == 117) := by cases v <;> rfl
 rw [hr]
 generalize v.sg = sg at *
 clear hb he hv hs hbs hE hok hr hbv
 go_enter Tryz.func107, Tryz.ntmps107
 go_wp2_with fail
 go_ret
 exact ⟨rfl, up1 w _⟩
theorem isOf_name (v : V) (x : List UInt8) : IOf v (.name x) := by
 rintro env w p pe pv n ⟨g, rfl, hb⟩ he hv hs hbs hE hok
 have c0 : w.cell? ⟨g, 0, none⟩ = some (.int .u8 110) := block_cell hb 0
 have lg := lt_of_block hb
 by_cases hel : ∃ s, v = .el s
 · obtain ⟨s, rfl⟩ := hel
   obtain ⟨gv, rfl, hbv⟩ := hv
   have d0 : w.cell? ⟨gv, 0, none⟩ = some (.int .u8 101) := block_cell hbv 0
   have lgv := lt_of_block hbv
   have d1 : w.cell? ⟨gv, 1, none⟩ = some (.string (St s)) := block_cell hbv 1
   obtain ⟨r, hsr, hr1, hr2, hat, hle, hnum⟩ := elem_nums hok
   have h5 : (St s).extract 1 (St s).size = St r := extract_tail (s := St s) (b := 101) (by simpa using hsr)
   have h6 : 1 <= (St s).size := by rw [hsr]; show 1 <= (101 :: r).length; simp
   have HA : Hid (∀ w1, Calls Tryz.prog 88 #[.string ((St s).extract 1 (St s).size)] w1 fun e w' => e = .returned (.tuple #[.int .i64 (elN s), .nilIface]) /\ Below w1.heap.size w1 w') := fun w1 => by
    rw [h5]
    refine (Tryz.strconv_Atoi (St r) (elN s) (by show r.length <= 18; omega) hat w1).mono ?_
    rintro e w' ⟨h1, t, T, rfl⟩
    exact ⟨h1, Lib.bytesWorld_below _ _ _⟩
   have hr : (V.el s).isOf n (env.map (·.1)) (.name x) = decide ((elN s : Int) < n) := rfl
   rw [hr]
   generalize ((elN s : Nat) : Int) = z at *
   clear hb he hs hbs hE hok hr hbv hsr hat hle hnum hr1 hr2 h5
   generalize St s = B at *
   go_enter Tryz.func107, Tryz.ntmps107
   go_wp2_with (go_at_call 88; refine (HA.out _).mono ?_; rintro e w1 ⟨rfl, hb1⟩; have HB1 := Lib.hid (up_trans (up1 w _) hb1); clear hb1)
   go_ret
   exact ⟨rfl, HB1.out⟩
 · obtain ⟨gv, el, pa, pb, rfl, hbv⟩ := hv.vn
   have d0 : w.cell? ⟨gv, 0, none⟩ = some (.int .u8 v.sg) := block_cell hbv 0
   have lgv := lt_of_block hbv
   have hr : v.isOf n (env.map (·.1)) (.name x) = false := by cases v <;> first | rfl | exact absurd ⟨_, rfl⟩ hel
   have h1 : (v.sg != 101) = true := by cases v <;> first | rfl | exact absurd ⟨_, rfl⟩ hel
   rw [hr]
   generalize v.sg = sg at *
   clear hb he hv hs hbs hE hok hr hbv hel
   go_enter Tryz.func107, Tryz.ntmps107
   go_wp2_with fail
   go_ret
   exact ⟨rfl, up1 w _⟩
theorem isOf_sum (v : V) (a b : Ty) (hsub : ∀ v' : V, v'.nodes < v.nodes -> ∀ t, IOf v' t) : IOf v (.sum a b) := by
 rintro env w p pe pv n ⟨pa, pb, ⟨g, rfl, hb⟩, ha, hb'⟩ he hv hs hbs hE hok
 have c0 : w.cell? ⟨g, 0, none⟩ = some (.int .u8 43) := block_cell hb 0
 have lg := lt_of_block hb
 by_cases hl : ∃ x, v = .l x
 · obtain ⟨x, rfl⟩ := hl
   obtain ⟨px, ⟨gv, rfl, hbv⟩, hx⟩ := hv
   have d0 : w.cell? ⟨gv, 0, none⟩ = some (.int .u8 108) := block_cell hbv 0
   have lgv := lt_of_block hbv
   have d2 : w.cell? ⟨gv, 2, none⟩ = some (.pointer px) := block_cell hbv 2
   have HS : Hid (∀ w', Below (w.alloc (.cells #[.pointer (some ⟨g, 0, none⟩), .pointer pe] 71)).heap.size (w.alloc (.cells #[.pointer (some ⟨g, 0, none⟩), .pointer pe] 71)) w' -> w'.cell? ⟨w.heap.size, 0, none⟩ = some (.pointer (some ⟨g, 0, none⟩)) /\ w'.cell? ⟨w.heap.size, 1, none⟩ = some (.pointer pe) /\ w'.cell? ⟨gv, 0, none⟩ = some (.int .u8 108) /\ w'.cell? ⟨gv, 2, none⟩ = some (.pointer px)) := fun w' h => ⟨cell_up h (block_cell (block_new w _) 0), cell_up h (block_cell (block_new w _) 1), cell_up (up_trans (up1 w _) h) d0, cell_up (up_trans (up1 w _) h) d2⟩
   have s0 := HS.out _ (Below.refl _ _)
   have HL : Hid (∀ w1, Below w.heap.size w w1 -> Calls Tryz.prog 111 #[.agg #[.pointer (some ⟨g, 0, none⟩), .pointer pe]] w1 fun e w' => e = .returned (.agg #[.pointer pa, .pointer pe]) /\ Below w1.heap.size w1 w') := fun w1 h => left_any g 43 [] 0 pa pb pe w1 (block_up h hb)
   have HC : Hid (∀ w1, Below w.heap.size w w1 -> Calls Tryz.prog 107 #[.agg #[.pointer pa, .pointer pe], .pointer px, .int .i64 n] w1 fun e w' => e = .returned (.bool (x.isOf n (env.map (·.1)) a)) /\ Below w1.heap.size w1 w') := fun w1 h => hsub x (by simp only [V.nodes]; omega) a env w1 pa pe px n (ha.up h) (he.up h) (hx.up h) hs.1 hbs.1 hE hok
   show Calls _ _ _ _ (fun e w' => e = .returned (.bool (x.isOf n (env.map (·.1)) a)) /\ _)
   generalize x.isOf n (env.map (·.1)) a = bx at *
   clear hb ha hb' he hx hs hbs hE hok hbv hsub
   cases bx with
   | true =>
    go_enter Tryz.func107, Tryz.ntmps107
    go_wp2
    refine wp_region_noPanic ?_
    refine wp_region_held_drew (S := (fun w' => w'.cell? ⟨w.heap.size, 0, none⟩ = some (.pointer (some ⟨g, 0, none⟩)) /\ w'.cell? ⟨w.heap.size, 1, none⟩ = some (.pointer pe) /\ w'.cell? ⟨gv, 0, none⟩ = some (.int .u8 108) /\ w'.cell? ⟨gv, 2, none⟩ = some (.pointer px))) (by kernel_rfl) (by exact HS.out _ (up_drew (Below.refl _ _))) (fun hHeld => ?_)
    refine tq 0 rfl ?_
    refine tq 1 rfl ?_
    refine tq 2 rfl ?_
    refine tq 3 rfl ?_
    refine tq 4 rfl ?_
    refine tq 5 rfl ?_
    refine tq 6 rfl ?_
    refine tq 8 rfl ?_
    refine tq 9 rfl ?_
    refine tq 10 rfl ?_
    refine tq 11 rfl ?_
    refine tq 12 rfl ?_
    refine tz 7 rfl fun K hK => ?_
    go_simp
    go_at_call 111
    (with_reducible refine (HL.out _ (up_drew (up1 w _))).mono ?_)
    rintro e w1 ⟨rfl, hb1⟩
    have K1 : Hid (Below (w.alloc (.cells #[.pointer (some ⟨g, 0, none⟩), .pointer pe] 71)).heap.size (w.alloc (.cells #[.pointer (some ⟨g, 0, none⟩), .pointer pe] 71)) w1) := up_trans (up_drew (Below.refl _ _)) hb1
    clear hb1
    refine hK.out _ _ (by exact HS.out _ K1.out) (fun hHeld => ?_)
    clear hK
    try simp only [Act.put, zA, zB, zC, zD, zE, zF]
    refine tz 13 rfl fun K hK => ?_
    go_simp
    go_at_call 107
    (with_reducible refine (HC.out _ (up_trans (up1 w _) K1.out)).mono ?_)
    rintro e w2 ⟨rfl, hb2⟩
    have K2 : Hid (Below (w.alloc (.cells #[.pointer (some ⟨g, 0, none⟩), .pointer pe] 71)).heap.size (w.alloc (.cells #[.pointer (some ⟨g, 0, none⟩), .pointer pe] 71)) w2) := up_trans K1.out hb2
    clear hb2
    refine hK.out _ _ (by exact HS.out _ K2.out) (fun hHeld => ?_)
    clear hK
    try simp only [Act.put, zA, zB, zC, zD, zE, zF]
    refine tq 14 rfl ?_
    refine tq 15 rfl ?_
    refine tn 16 rfl ?_
    try simp only [Act.put, zA, zB, zC, zD, zE, zF]
    refine tn 17 rfl ?_
    try simp only [Act.put, zA, zB, zC, zD, zE, zF]
    refine tn 18 rfl ?_
    try simp only [Act.put, zA, zB, zC, zD, zE, zF]
    refine tn 19 rfl ?_
    try simp only [Act.put, zA, zB, zC, zD, zE, zF]
    refine tn 20 rfl ?_
    try simp only [Act.put, zA, zB, zC, zD, zE, zF]
    refine tn 21 rfl ?_
    try simp only [Act.put, zA, zB, zC, zD, zE, zF]
    refine tn 22 rfl ?_
    try simp only [Act.put, zA, zB, zC, zD, zE, zF]
    refine tn 23 rfl ?_
    try simp only [Act.put, zA, zB, zC, zD, zE, zF]
    refine tn 24 rfl ?_
    try simp only [Act.put, zA, zB, zC, zD, zE, zF]
    refine tn 25 rfl ?_
    try simp only [Act.put, zA, zB, zC, zD, zE, zF]
    refine tn 26 rfl ?_
    try simp only [Act.put, zA, zB, zC, zD, zE, zF]
    refine tn 27 rfl ?_
    try simp only [Act.put, zA, zB, zC, zD, zE, zF]
    refine tn 28 rfl ?_
    try simp only [Act.put, zA, zB, zC, zD, zE, zF]
    refine tn 29 rfl ?_
    try simp only [Act.put, zA, zB, zC, zD, zE, zF]
    refine tn 30 rfl ?_
    try simp only [Act.put, zA, zB, zC, zD, zE, zF]
    refine tq 31 rfl ?_
    refine tq 32 rfl ?_
    refine wpAnyH_done (by kernel_rfl) ?_ _
    refine NoPanic.normal ?_
    go_wp2
    go_ret
    exact ⟨rfl, up_trans (up1 w _) K2.out⟩
   | false =>
    go_enter Tryz.func107, Tryz.ntmps107
    go_wp2
    refine wp_region_noPanic ?_
    refine wp_region_held_drew (S := (fun w' => w'.cell? ⟨w.heap.size, 0, none⟩ = some (.pointer (some ⟨g, 0, none⟩)) /\ w'.cell? ⟨w.heap.size, 1, none⟩ = some (.pointer pe) /\ w'.cell? ⟨gv, 0, none⟩ = some (.int .u8 108) /\ w'.cell? ⟨gv, 2, none⟩ = some (.pointer px))) (by kernel_rfl) (by exact HS.out _ (up_drew (Below.refl _ _))) (fun hHeld => ?_)
    refine tq 0 rfl ?_
    refine tq 1 rfl ?_
    refine tq 2 rfl ?_
    refine tq 3 rfl ?_
    refine tq 4 rfl ?_
    refine tq 5 rfl ?_
    refine tq 6 rfl ?_
    refine tq 8 rfl ?_
    refine tq 9 rfl ?_
    refine tq 10 rfl ?_
    refine tq 11 rfl ?_
    refine tq 12 rfl ?_
    refine tz 7 rfl fun K hK => ?_
    go_simp
    go_at_call 111
    (with_reducible refine (HL.out _ (up_drew (up1 w _))).mono ?_)
    rintro e w1 ⟨rfl, hb1⟩
    have K1 : Hid (Below (w.alloc (.cells #[.pointer (some ⟨g, 0, none⟩), .pointer pe] 71)).heap.size (w.alloc (.cells #[.pointer (some ⟨g, 0, none⟩), .pointer pe] 71)) w1) := up_trans (up_drew (Below.refl _ _)) hb1
    clear hb1
    refine hK.out _ _ (by exact HS.out _ K1.out) (fun hHeld => ?_)
    clear hK
    try simp only [Act.put, zA, zB, zC, zD, zE, zF]
    refine tz 13 rfl fun K hK => ?_
    go_simp
    go_at_call 107
    (with_reducible refine (HC.out _ (up_trans (up1 w _) K1.out)).mono ?_)
    rintro e w2 ⟨rfl, hb2⟩
    have K2 : Hid (Below (w.alloc (.cells #[.pointer (some ⟨g, 0, none⟩), .pointer pe] 71)).heap.size (w.alloc (.cells #[.pointer (some ⟨g, 0, none⟩), .pointer pe] 71)) w2) := up_trans K1.out hb2
    clear hb2
    refine hK.out _ _ (by exact HS.out _ K2.out) (fun hHeld => ?_)
    clear hK
    try simp only [Act.put, zA, zB, zC, zD, zE, zF]
    refine tq 14 rfl ?_
    refine tq 15 rfl ?_
    refine tq 16 rfl ?_
    refine tq 17 rfl ?_
    refine tq 18 rfl ?_
    refine tq 19 rfl ?_
    refine tq 20 rfl ?_
    refine tq 21 rfl ?_
    refine tn 22 rfl ?_
    try simp only [Act.put, zA, zB, zC, zD, zE, zF]
    refine tn 23 rfl ?_
    try simp only [Act.put, zA, zB, zC, zD, zE, zF]
    refine tn 24 rfl ?_
    try simp only [Act.put, zA, zB, zC, zD, zE, zF]
    refine tn 25 rfl ?_
    try simp only [Act.put, zA, zB, zC, zD, zE, zF]
    refine tn 26 rfl ?_
    try simp only [Act.put, zA, zB, zC, zD, zE, zF]
    refine tn 27 rfl ?_
    try simp only [Act.put, zA, zB, zC, zD, zE, zF]
    refine tn 28 rfl ?_
    try simp only [Act.put, zA, zB, zC, zD, zE, zF]
    refine tn 29 rfl ?_
    try simp only [Act.put, zA, zB, zC, zD, zE, zF]
    refine tq 30 rfl ?_
    refine tq 31 rfl ?_
    refine tq 32 rfl ?_
    refine wpAnyH_done (by kernel_rfl) ?_ _
    refine NoPanic.normal ?_
    go_wp2
    go_ret
    exact ⟨rfl, up_trans (up1 w _) K2.out⟩
 · by_cases hr : ∃ x, v = .r x
   · obtain ⟨x, rfl⟩ := hr
     clear hl
     obtain ⟨px, ⟨gv, rfl, hbv⟩, hx⟩ := hv
     have d0 : w.cell? ⟨gv, 0, none⟩ = some (.int .u8 114) := block_cell hbv 0
     have lgv := lt_of_block hbv
     have d2 : w.cell? ⟨gv, 2, none⟩ = some (.pointer px) := block_cell hbv 2
     have HS : Hid (∀ w', Below (w.alloc (.cells #[.pointer (some ⟨g, 0, none⟩), .pointer pe] 71)).heap.size (w.alloc (.cells #[.pointer (some ⟨g, 0, none⟩), .pointer pe] 71)) w' -> w'.cell? ⟨w.heap.size, 0, none⟩ = some (.pointer (some ⟨g, 0, none⟩)) /\ w'.cell? ⟨w.heap.size, 1, none⟩ = some (.pointer pe) /\ w'.cell? ⟨gv, 0, none⟩ = some (.int .u8 114) /\ w'.cell? ⟨gv, 2, none⟩ = some (.pointer px)) := fun w' h => ⟨cell_up h (block_cell (block_new w _) 0), cell_up h (block_cell (block_new w _) 1), cell_up (up_trans (up1 w _) h) d0, cell_up (up_trans (up1 w _) h) d2⟩
     have s0 := HS.out _ (Below.refl _ _)
     have HL : Hid (∀ w1, Below w.heap.size w w1 -> Calls Tryz.prog 112 #[.agg #[.pointer (some ⟨g, 0, none⟩), .pointer pe]] w1 fun e w' => e = .returned (.agg #[.pointer pb, .pointer pe]) /\ Below w1.heap.size w1 w') := fun w1 h => right_any g 43 [] 0 pa pb pe w1 (block_up h hb)
     have HC : Hid (∀ w1, Below w.heap.size w w1 -> Calls Tryz.prog 107 #[.agg #[.pointer pb, .pointer pe], .pointer px, .int .i64 n] w1 fun e w' => e = .returned (.bool (x.isOf n (env.map (·.1)) b)) /\ Below w1.heap.size w1 w') := fun w1 h => hsub x (by simp only [V.nodes]; omega) b env w1 pb pe px n (hb'.up h) (he.up h) (hx.up h) hs.2 hbs.2 hE hok
     show Calls _ _ _ _ (fun e w' => e = .returned (.bool (x.isOf n (env.map (·.1)) b)) /\ _)
     generalize x.isOf n (env.map (·.1)) b = bx at *
     clear hb ha hb' he hx hs hbs hE hok hbv hsub
     cases bx with
     | true =>
      go_enter Tryz.func107, Tryz.ntmps107
      go_wp2
      refine wp_region_noPanic ?_
      refine wp_region_held_drew (S := (fun w' => w'.cell? ⟨w.heap.size, 0, none⟩ = some (.pointer (some ⟨g, 0, none⟩)) /\ w'.cell? ⟨w.heap.size, 1, none⟩ = some (.pointer pe) /\ w'.cell? ⟨gv, 0, none⟩ = some (.int .u8 114) /\ w'.cell? ⟨gv, 2, none⟩ = some (.pointer px))) (by kernel_rfl) (by exact HS.out _ (up_drew (Below.refl _ _))) (fun hHeld => ?_)
      refine tq 0 rfl ?_
      refine tq 1 rfl ?_
      refine tq 2 rfl ?_
      refine tq 3 rfl ?_
      refine tq 4 rfl ?_
      refine tq 5 rfl ?_
      refine tn 6 rfl ?_
      try simp only [Act.put, zA, zB, zC, zD, zE, zF]
      refine tn 7 rfl ?_
      try simp only [Act.put, zA, zB, zC, zD, zE, zF]
      refine tn 8 rfl ?_
      try simp only [Act.put, zA, zB, zC, zD, zE, zF]
      refine tn 9 rfl ?_
      try simp only [Act.put, zA, zB, zC, zD, zE, zF]
      refine tn 10 rfl ?_
      try simp only [Act.put, zA, zB, zC, zD, zE, zF]
      refine tn 11 rfl ?_
      try simp only [Act.put, zA, zB, zC, zD, zE, zF]
      refine tn 12 rfl ?_
      try simp only [Act.put, zA, zB, zC, zD, zE, zF]
      refine tn 13 rfl ?_
      try simp only [Act.put, zA, zB, zC, zD, zE, zF]
      refine tq 14 rfl ?_
      refine tq 15 rfl ?_
      refine tq 16 rfl ?_
      refine tq 17 rfl ?_
      refine tq 18 rfl ?_
      refine tq 19 rfl ?_
      refine tq 20 rfl ?_
      refine tq 21 rfl ?_
      refine tq 22 rfl ?_
      refine tq 24 rfl ?_
      refine tq 25 rfl ?_
      refine tq 26 rfl ?_
      refine tq 27 rfl ?_
      refine tq 28 rfl ?_
      refine tz 23 rfl fun K hK => ?_
      go_simp
      go_at_call 112
      (with_reducible refine (HL.out _ (up_drew (up1 w _))).mono ?_)
      rintro e w1 ⟨rfl, hb1⟩
      have K1 : Hid (Below (w.alloc (.cells #[.pointer (some ⟨g, 0, none⟩), .pointer pe] 71)).heap.size (w.alloc (.cells #[.pointer (some ⟨g, 0, none⟩), .pointer pe] 71)) w1) := up_trans (up_drew (Below.refl _ _)) hb1
      clear hb1
      refine hK.out _ _ (by exact HS.out _ K1.out) (fun hHeld => ?_)
      clear hK
      try simp only [Act.put, zA, zB, zC, zD, zE, zF]
      refine tz 29 rfl fun K hK => ?_
      go_simp
      go_at_call 107
      (with_reducible refine (HC.out _ (up_trans (up1 w _) K1.out)).mono ?_)
      rintro e w2 ⟨rfl, hb2⟩
      have K2 : Hid (Below (w.alloc (.cells #[.pointer (some ⟨g, 0, none⟩), .pointer pe] 71)).heap.size (w.alloc (.cells #[.pointer (some ⟨g, 0, none⟩), .pointer pe] 71)) w2) := up_trans K1.out hb2
      clear hb2
      refine hK.out _ _ (by exact HS.out _ K2.out) (fun hHeld => ?_)
      clear hK
      try simp only [Act.put, zA, zB, zC, zD, zE, zF]
      refine tq 30 rfl ?_
      refine tq 31 rfl ?_
      refine tq 32 rfl ?_
      refine wpAnyH_done (by kernel_rfl) ?_ _
      refine NoPanic.normal ?_
      go_wp2
      go_ret
      exact ⟨rfl, up_trans (up1 w _) K2.out⟩
     | false =>
      go_enter Tryz.func107, Tryz.ntmps107
      go_wp2
      refine wp_region_noPanic ?_
      refine wp_region_held_drew (S := (fun w' => w'.cell? ⟨w.heap.size, 0, none⟩ = some (.pointer (some ⟨g, 0, none⟩)) /\ w'.cell? ⟨w.heap.size, 1, none⟩ = some (.pointer pe) /\ w'.cell? ⟨gv, 0, none⟩ = some (.int .u8 114) /\ w'.cell? ⟨gv, 2, none⟩ = some (.pointer px))) (by kernel_rfl) (by exact HS.out _ (up_drew (Below.refl _ _))) (fun hHeld => ?_)
      refine tq 0 rfl ?_
      refine tq 1 rfl ?_
      refine tq 2 rfl ?_
      refine tq 3 rfl ?_
      refine tq 4 rfl ?_
      refine tq 5 rfl ?_
      refine tn 6 rfl ?_
      try simp only [Act.put, zA, zB, zC, zD, zE, zF]
      refine tn 7 rfl ?_
      try simp only [Act.put, zA, zB, zC, zD, zE, zF]
      refine tn 8 rfl ?_
      try simp only [Act.put, zA, zB, zC, zD, zE, zF]
      refine tn 9 rfl ?_
      try simp only [Act.put, zA, zB, zC, zD, zE, zF]
      refine tn 10 rfl ?_
      try simp only [Act.put, zA, zB, zC, zD, zE, zF]
      refine tn 11 rfl ?_
      try simp only [Act.put, zA, zB, zC, zD, zE, zF]
      refine tn 12 rfl ?_
      try simp only [Act.put, zA, zB, zC, zD, zE, zF]
      refine tn 13 rfl ?_
      try simp only [Act.put, zA, zB, zC, zD, zE, zF]
      refine tq 14 rfl ?_
      refine tq 15 rfl ?_
      refine tq 16 rfl ?_
      refine tq 17 rfl ?_
      refine tq 18 rfl ?_
      refine tq 19 rfl ?_
      refine tq 20 rfl ?_
      refine tq 21 rfl ?_
      refine tq 22 rfl ?_
      refine tq 24 rfl ?_
      refine tq 25 rfl ?_
      refine tq 26 rfl ?_
      refine tq 27 rfl ?_
      refine tq 28 rfl ?_
      refine tz 23 rfl fun K hK => ?_
      go_simp
      go_at_call 112
      (with_reducible refine (HL.out _ (up_drew (up1 w _))).mono ?_)
      rintro e w1 ⟨rfl, hb1⟩
      have K1 : Hid (Below (w.alloc (.cells #[.pointer (some ⟨g, 0, none⟩), .pointer pe] 71)).heap.size (w.alloc (.cells #[.pointer (some ⟨g, 0, none⟩), .pointer pe] 71)) w1) := up_trans (up_drew (Below.refl _ _)) hb1
      clear hb1
      refine hK.out _ _ (by exact HS.out _ K1.out) (fun hHeld => ?_)
      clear hK
      try simp only [Act.put, zA, zB, zC, zD, zE, zF]
      refine tz 29 rfl fun K hK => ?_
      go_simp
      go_at_call 107
      (with_reducible refine (HC.out _ (up_trans (up1 w _) K1.out)).mono ?_)
      rintro e w2 ⟨rfl, hb2⟩
      have K2 : Hid (Below (w.alloc (.cells #[.pointer (some ⟨g, 0, none⟩), .pointer pe] 71)).heap.size (w.alloc (.cells #[.pointer (some ⟨g, 0, none⟩), .pointer pe] 71)) w2) := up_trans K1.out hb2
      clear hb2
      refine hK.out _ _ (by exact HS.out _ K2.out) (fun hHeld => ?_)
      clear hK
      try simp only [Act.put, zA, zB, zC, zD, zE, zF]
      refine tq 30 rfl ?_
      refine tq 31 rfl ?_
      refine tq 32 rfl ?_
      refine wpAnyH_done (by kernel_rfl) ?_ _
      refine NoPanic.normal ?_
      go_wp2
      go_ret
      exact ⟨rfl, up_trans (up1 w _) K2.out⟩
   · obtain ⟨gv, el, qa, qb, rfl, hbv⟩ := hv.vn
     have d0 : w.cell? ⟨gv, 0, none⟩ = some (.int .u8 v.sg) := block_cell hbv 0
     have lgv := lt_of_block hbv
     have hF : v.isOf n (env.map (·.1)) (.sum a b) = false := by cases v <;> first | rfl | exact absurd ⟨_, rfl⟩ hl | exact absurd ⟨_, rfl⟩ hr
     have h1 : (v.sg == 108) = false := by cases v <;> first | rfl | exact absurd ⟨_, rfl⟩ hl
     have h2 : (v.sg == 114) = false := by cases v <;> first | rfl | exact absurd ⟨_, rfl⟩ hr
     rw [hF]
     generalize v.sg = sg at *
     clear hb ha hb' he hv hs hbs hE hok hbv hsub hl hr hF
     go_enter Tryz.func107, Tryz.ntmps107
     go_wp2
     refine wp_region_noPanic ?_
     refine wp_region_held_drew (S := (fun w' => w'.cell? ⟨gv, 0, none⟩ = some (.int .u8 sg))) (by kernel_rfl) (by exact cell_up (up_drew (up1 w _)) d0) (fun hHeld => ?_)
     refine tq 0 rfl ?_
     refine tq 1 rfl ?_
     refine tq 2 rfl ?_
     refine tq 3 rfl ?_
     refine tq 4 rfl ?_
     refine tq 5 rfl ?_
     refine tn 6 rfl ?_
     try simp only [Act.put, zA, zB, zC, zD, zE, zF]
     refine tn 7 rfl ?_
     try simp only [Act.put, zA, zB, zC, zD, zE, zF]
     refine tn 8 rfl ?_
     try simp only [Act.put, zA, zB, zC, zD, zE, zF]
     refine tn 9 rfl ?_
     try simp only [Act.put, zA, zB, zC, zD, zE, zF]
     refine tn 10 rfl ?_
     try simp only [Act.put, zA, zB, zC, zD, zE, zF]
     refine tn 11 rfl ?_
     try simp only [Act.put, zA, zB, zC, zD, zE, zF]
     refine tn 12 rfl ?_
     try simp only [Act.put, zA, zB, zC, zD, zE, zF]
     refine tn 13 rfl ?_
     try simp only [Act.put, zA, zB, zC, zD, zE, zF]
     refine tq 14 rfl ?_
     refine tq 15 rfl ?_
     refine tq 16 rfl ?_
     refine tq 17 rfl ?_
     refine tq 18 rfl ?_
     refine tq 19 rfl ?_
     refine tq 20 rfl ?_
     refine tq 21 rfl ?_
     refine tn 22 rfl ?_
     try simp only [Act.put, zA, zB, zC, zD, zE, zF]
     refine tn 23 rfl ?_
     try simp only [Act.put, zA, zB, zC, zD, zE, zF]
     refine tn 24 rfl ?_
     try simp only [Act.put, zA, zB, zC, zD, zE, zF]
     refine tn 25 rfl ?_
     try simp only [Act.put, zA, zB, zC, zD, zE, zF]
     refine tn 26 rfl ?_
     try simp only [Act.put, zA, zB, zC, zD, zE, zF]
     refine tn 27 rfl ?_
     try simp only [Act.put, zA, zB, zC, zD, zE, zF]
     refine tn 28 rfl ?_
     try simp only [Act.put, zA, zB, zC, zD, zE, zF]
     refine tn 29 rfl ?_
     try simp only [Act.put, zA, zB, zC, zD, zE, zF]
     refine tq 30 rfl ?_
     refine tq 31 rfl ?_
     refine tq 32 rfl ?_
     refine wpAnyH_done (by kernel_rfl) ?_ _
     refine NoPanic.normal ?_
     go_wp2
     go_ret
     exact ⟨rfl, by repeat (first | exact Below.refl _ _ | refine up_drew ?_ | refine up_alloc ?_ _)⟩
theorem isOf_prod (v : V) (a b : Ty) (hsub : ∀ v' : V, v'.nodes < v.nodes -> ∀ t, IOf v' t) : IOf v (.prod a b) := by
 rintro env w p pe pv n ⟨pa, pb, ⟨g, rfl, hb⟩, ha, hb'⟩ he hv hs hbs hE hok
 have c0 : w.cell? ⟨g, 0, none⟩ = some (.int .u8 42) := block_cell hb 0
 have lg := lt_of_block hb
 by_cases hl : ∃ x y, v = .p x y
 · obtain ⟨x, y, rfl⟩ := hl
   obtain ⟨px, py, ⟨gv, rfl, hbv⟩, hx, hy⟩ := hv
   have d0 : w.cell? ⟨gv, 0, none⟩ = some (.int .u8 112) := block_cell hbv 0
   have lgv := lt_of_block hbv
   have d2 : w.cell? ⟨gv, 2, none⟩ = some (.pointer px) := block_cell hbv 2
   have d3 : w.cell? ⟨gv, 3, none⟩ = some (.pointer py) := block_cell hbv 3
   have HS : Hid (∀ w', Below (w.alloc (.cells #[.pointer (some ⟨g, 0, none⟩), .pointer pe] 71)).heap.size (w.alloc (.cells #[.pointer (some ⟨g, 0, none⟩), .pointer pe] 71)) w' -> w'.cell? ⟨w.heap.size, 0, none⟩ = some (.pointer (some ⟨g, 0, none⟩)) /\ w'.cell? ⟨w.heap.size, 1, none⟩ = some (.pointer pe) /\ w'.cell? ⟨gv, 0, none⟩ = some (.int .u8 112) /\ w'.cell? ⟨gv, 2, none⟩ = some (.pointer px) /\ w'.cell? ⟨gv, 3, none⟩ = some (.pointer py)) := fun w' h => ⟨cell_up h (block_cell (block_new w _) 0), cell_up h (block_cell (block_new w _) 1), cell_up (up_trans (up1 w _) h) d0, cell_up (up_trans (up1 w _) h) d2, cell_up (up_trans (up1 w _) h) d3⟩
   have HL : Hid (∀ w1, Below w.heap.size w w1 -> Calls Tryz.prog 111 #[.agg #[.pointer (some ⟨g, 0, none⟩), .pointer pe]] w1 fun e w' => e = .returned (.agg #[.pointer pa, .pointer pe]) /\ Below w1.heap.size w1 w') := fun w1 h => left_any g 42 [] 0 pa pb pe w1 (block_up h hb)
   have HR : Hid (∀ w1, Below w.heap.size w w1 -> Calls Tryz.prog 112 #[.agg #[.pointer (some ⟨g, 0, none⟩), .pointer pe]] w1 fun e w' => e = .returned (.agg #[.pointer pb, .pointer pe]) /\ Below w1.heap.size w1 w') := fun w1 h => right_any g 42 [] 0 pa pb pe w1 (block_up h hb)
   have HC : Hid (∀ w1, Below w.heap.size w w1 -> Calls Tryz.prog 107 #[.agg #[.pointer pa, .pointer pe], .pointer px, .int .i64 n] w1 fun e w' => e = .returned (.bool (x.isOf n (env.map (·.1)) a)) /\ Below w1.heap.size w1 w') := fun w1 h => hsub x (by simp only [V.nodes]; omega) a env w1 pa pe px n (ha.up h) (he.up h) (hx.up h) hs.1 hbs.1 hE hok.1
   have HC2 : Hid (∀ w1, Below w.heap.size w w1 -> Calls Tryz.prog 107 #[.agg #[.pointer pb, .pointer pe], .pointer py, .int .i64 n] w1 fun e w' => e = .returned (.bool (y.isOf n (env.map (·.1)) b)) /\ Below w1.heap.size w1 w') := fun w1 h => hsub y (by simp only [V.nodes]; omega) b env w1 pb pe py n (hb'.up h) (he.up h) (hy.up h) hs.2 hbs.2 hE hok.2
   show Calls _ _ _ _ (fun e w' => e = .returned (.bool (x.isOf n (env.map (·.1)) a && y.isOf n (env.map (·.1)) b)) /\ _)
   generalize x.isOf n (env.map (·.1)) a = bx at *
   generalize y.isOf n (env.map (·.1)) b = bz at *
   clear hb ha hb' he hx hs hbs hE hok hbv hsub hy
   cases bx with
   | false =>
    go_enter Tryz.func107, Tryz.ntmps107
    go_wp2
    refine wp_region_noPanic ?_
    refine wp_region_held_drew (S := (fun w' => w'.cell? ⟨w.heap.size, 0, none⟩ = some (.pointer (some ⟨g, 0, none⟩)) /\ w'.cell? ⟨w.heap.size, 1, none⟩ = some (.pointer pe) /\ w'.cell? ⟨gv, 0, none⟩ = some (.int .u8 112) /\ w'.cell? ⟨gv, 2, none⟩ = some (.pointer px) /\ w'.cell? ⟨gv, 3, none⟩ = some (.pointer py))) (by kernel_rfl) (by exact HS.out _ (up_drew (Below.refl _ _))) (fun hHeld => ?_)
    refine tq 0 rfl ?_
    refine tq 1 rfl ?_
    refine tq 2 rfl ?_
    refine tq 3 rfl ?_
    refine tq 4 rfl ?_
    refine tq 5 rfl ?_
    refine tq 6 rfl ?_
    refine tq 8 rfl ?_
    refine tq 9 rfl ?_
    refine tq 10 rfl ?_
    refine tq 11 rfl ?_
    refine tq 12 rfl ?_
    refine tz 7 rfl fun K hK => ?_
    go_simp
    go_at_call 111
    (with_reducible refine (HL.out _ (up_drew (up1 w _))).mono ?_)
    rintro e w1 ⟨rfl, hb1⟩
    have K1 : Hid (Below (w.alloc (.cells #[.pointer (some ⟨g, 0, none⟩), .pointer pe] 71)).heap.size (w.alloc (.cells #[.pointer (some ⟨g, 0, none⟩), .pointer pe] 71)) w1) := up_trans (up_drew (Below.refl _ _)) hb1
    clear hb1
    refine hK.out _ _ (by exact HS.out _ K1.out) (fun hHeld => ?_)
    clear hK
    try simp only [Act.put, zA, zB, zC, zD, zE, zF]
    refine tz 13 rfl fun K hK => ?_
    go_simp
    go_at_call 107
    (with_reducible refine (HC.out _ (up_trans (up1 w _) K1.out)).mono ?_)
    rintro e w2 ⟨rfl, hb2⟩
    have K2 : Hid (Below (w.alloc (.cells #[.pointer (some ⟨g, 0, none⟩), .pointer pe] 71)).heap.size (w.alloc (.cells #[.pointer (some ⟨g, 0, none⟩), .pointer pe] 71)) w2) := up_trans K1.out hb2
    clear hb2
    refine hK.out _ _ (by exact HS.out _ K2.out) (fun hHeld => ?_)
    clear hK
    try simp only [Act.put, zA, zB, zC, zD, zE, zF]
    refine tq 14 rfl ?_
    refine tq 15 rfl ?_
    refine tn 16 rfl ?_
    try simp only [Act.put, zA, zB, zC, zD, zE, zF]
    refine tn 17 rfl ?_
    try simp only [Act.put, zA, zB, zC, zD, zE, zF]
    refine tn 18 rfl ?_
    try simp only [Act.put, zA, zB, zC, zD, zE, zF]
    refine tn 19 rfl ?_
    try simp only [Act.put, zA, zB, zC, zD, zE, zF]
    refine tn 20 rfl ?_
    try simp only [Act.put, zA, zB, zC, zD, zE, zF]
    refine tn 21 rfl ?_
    try simp only [Act.put, zA, zB, zC, zD, zE, zF]
    refine tn 22 rfl ?_
    try simp only [Act.put, zA, zB, zC, zD, zE, zF]
    refine tn 23 rfl ?_
    try simp only [Act.put, zA, zB, zC, zD, zE, zF]
    refine tq 24 rfl ?_
    refine tq 25 rfl ?_
    refine wpAnyH_done (by kernel_rfl) ?_ _
    refine NoPanic.normal ?_
    go_wp2
    go_ret
    exact ⟨rfl, up_trans (up1 w _) K2.out⟩
   | true =>
    go_enter Tryz.func107, Tryz.ntmps107
    go_wp2
    refine wp_region_noPanic ?_
    refine wp_region_held_drew (S := (fun w' => w'.cell? ⟨w.heap.size, 0, none⟩ = some (.pointer (some ⟨g, 0, none⟩)) /\ w'.cell? ⟨w.heap.size, 1, none⟩ = some (.pointer pe) /\ w'.cell? ⟨gv, 0, none⟩ = some (.int .u8 112) /\ w'.cell? ⟨gv, 2, none⟩ = some (.pointer px) /\ w'.cell? ⟨gv, 3, none⟩ = some (.pointer py))) (by kernel_rfl) (by exact HS.out _ (up_drew (Below.refl _ _))) (fun hHeld => ?_)
    refine tq 0 rfl ?_
    refine tq 1 rfl ?_
    refine tq 2 rfl ?_
    refine tq 3 rfl ?_
    refine tq 4 rfl ?_
    refine tq 5 rfl ?_
    refine tq 6 rfl ?_
    refine tq 8 rfl ?_
    refine tq 9 rfl ?_
    refine tq 10 rfl ?_
    refine tq 11 rfl ?_
    refine tq 12 rfl ?_
    refine tz 7 rfl fun K hK => ?_
    go_simp
    go_at_call 111
    (with_reducible refine (HL.out _ (up_drew (up1 w _))).mono ?_)
    rintro e w1 ⟨rfl, hb1⟩
    have K1 : Hid (Below (w.alloc (.cells #[.pointer (some ⟨g, 0, none⟩), .pointer pe] 71)).heap.size (w.alloc (.cells #[.pointer (some ⟨g, 0, none⟩), .pointer pe] 71)) w1) := up_trans (up_drew (Below.refl _ _)) hb1
    clear hb1
    refine hK.out _ _ (by exact HS.out _ K1.out) (fun hHeld => ?_)
    clear hK
    try simp only [Act.put, zA, zB, zC, zD, zE, zF]
    refine tz 13 rfl fun K hK => ?_
    go_simp
    go_at_call 107
    (with_reducible refine (HC.out _ (up_trans (up1 w _) K1.out)).mono ?_)
    rintro e w2 ⟨rfl, hb2⟩
    have K2 : Hid (Below (w.alloc (.cells #[.pointer (some ⟨g, 0, none⟩), .pointer pe] 71)).heap.size (w.alloc (.cells #[.pointer (some ⟨g, 0, none⟩), .pointer pe] 71)) w2) := up_trans K1.out hb2
    clear hb2
    refine hK.out _ _ (by exact HS.out _ K2.out) (fun hHeld => ?_)
    clear hK
    try simp only [Act.put, zA, zB, zC, zD, zE, zF]
    refine tq 14 rfl ?_
    refine tq 15 rfl ?_
    refine tq 16 rfl ?_
    refine tq 18 rfl ?_
    refine tq 19 rfl ?_
    refine tq 20 rfl ?_
    refine tq 21 rfl ?_
    refine tq 22 rfl ?_
    refine tz 17 rfl fun K hK => ?_
    go_simp
    go_at_call 112
    (with_reducible refine (HR.out _ (up_trans (up1 w _) K2.out)).mono ?_)
    rintro e w3 ⟨rfl, hb3⟩
    have K3 : Hid (Below (w.alloc (.cells #[.pointer (some ⟨g, 0, none⟩), .pointer pe] 71)).heap.size (w.alloc (.cells #[.pointer (some ⟨g, 0, none⟩), .pointer pe] 71)) w3) := up_trans K2.out hb3
    clear hb3
    refine hK.out _ _ (by exact HS.out _ K3.out) (fun hHeld => ?_)
    clear hK
    try simp only [Act.put, zA, zB, zC, zD, zE, zF]
    refine tz 23 rfl fun K hK => ?_
    go_simp
    go_at_call 107
    (with_reducible refine (HC2.out _ (up_trans (up1 w _) K3.out)).mono ?_)
    rintro e w4 ⟨rfl, hb4⟩
    have K4 : Hid (Below (w.alloc (.cells #[.pointer (some ⟨g, 0, none⟩), .pointer pe] 71)).heap.size (w.alloc (.cells #[.pointer (some ⟨g, 0, none⟩), .pointer pe] 71)) w4) := up_trans K3.out hb4
    clear hb4
    refine hK.out _ _ (by exact HS.out _ K4.out) (fun hHeld => ?_)
    clear hK
    try simp only [Act.put, zA, zB, zC, zD, zE, zF]
    refine tq 24 rfl ?_
    refine tq 25 rfl ?_
    refine wpAnyH_done (by kernel_rfl) ?_ _
    refine NoPanic.normal ?_
    go_wp2
    go_ret
    exact ⟨by cases bz <;> rfl, up_trans (up1 w _) K4.out⟩
 · obtain ⟨gv, el, qa, qb, rfl, hbv⟩ := hv.vn
   have d0 : w.cell? ⟨gv, 0, none⟩ = some (.int .u8 v.sg) := block_cell hbv 0
   have lgv := lt_of_block hbv
   have hF : v.isOf n (env.map (·.1)) (.prod a b) = false := by cases v <;> first | rfl | exact absurd ⟨_, _, rfl⟩ hl
   have h1 : (v.sg == 112) = false := by cases v <;> first | rfl | exact absurd ⟨_, _, rfl⟩ hl
   rw [hF]
   generalize v.sg = sg at *
   clear hb ha hb' he hv hs hbs hE hok hbv hsub hl hF
   go_enter Tryz.func107, Tryz.ntmps107
   go_wp2
   refine wp_region_noPanic ?_
   refine wp_region_held_drew (S := (fun w' => w'.cell? ⟨gv, 0, none⟩ = some (.int .u8 sg))) (by kernel_rfl) (by exact cell_up (up_drew (up1 w _)) d0) (fun hHeld => ?_)
   refine tq 0 rfl ?_
   refine tq 1 rfl ?_
   refine tq 2 rfl ?_
   refine tq 3 rfl ?_
   refine tq 4 rfl ?_
   refine tq 5 rfl ?_
   refine tn 6 rfl ?_
   try simp only [Act.put, zA, zB, zC, zD, zE, zF]
   refine tn 7 rfl ?_
   try simp only [Act.put, zA, zB, zC, zD, zE, zF]
   refine tn 8 rfl ?_
   try simp only [Act.put, zA, zB, zC, zD, zE, zF]
   refine tn 9 rfl ?_
   try simp only [Act.put, zA, zB, zC, zD, zE, zF]
   refine tn 10 rfl ?_
   try simp only [Act.put, zA, zB, zC, zD, zE, zF]
   refine tn 11 rfl ?_
   try simp only [Act.put, zA, zB, zC, zD, zE, zF]
   refine tn 12 rfl ?_
   try simp only [Act.put, zA, zB, zC, zD, zE, zF]
   refine tn 13 rfl ?_
   try simp only [Act.put, zA, zB, zC, zD, zE, zF]
   refine tq 14 rfl ?_
   refine tq 15 rfl ?_
   refine tn 16 rfl ?_
   try simp only [Act.put, zA, zB, zC, zD, zE, zF]
   refine tn 17 rfl ?_
   try simp only [Act.put, zA, zB, zC, zD, zE, zF]
   refine tn 18 rfl ?_
   try simp only [Act.put, zA, zB, zC, zD, zE, zF]
   refine tn 19 rfl ?_
   try simp only [Act.put, zA, zB, zC, zD, zE, zF]
   refine tn 20 rfl ?_
   try simp only [Act.put, zA, zB, zC, zD, zE, zF]
   refine tn 21 rfl ?_
   try simp only [Act.put, zA, zB, zC, zD, zE, zF]
   refine tn 22 rfl ?_
   try simp only [Act.put, zA, zB, zC, zD, zE, zF]
   refine tn 23 rfl ?_
   try simp only [Act.put, zA, zB, zC, zD, zE, zF]
   refine tq 24 rfl ?_
   refine tq 25 rfl ?_
   refine wpAnyH_done (by kernel_rfl) ?_ _
   refine NoPanic.normal ?_
   go_wp2
   go_ret
   exact ⟨rfl, by repeat (first | exact Below.refl _ _ | refine up_drew ?_ | refine up_alloc ?_ _)⟩
theorem isOf_loop (v : V) (a : Ty) (hsub : ∀ v' : V, v'.nodes < v.nodes -> ∀ t, IOf v' t) : IOf v (.loop a) := by
 rintro env w p pe pv n ht he hv hs hbs hE hok
 obtain ⟨pa, ⟨g, rfl, hb⟩, ha⟩ := id ht
 have c0 : w.cell? ⟨g, 0, none⟩ = some (.int .u8 114) := block_cell hb 0
 have lg := lt_of_block hb
 have HI : Hid (∀ w1, Below w.heap.size w w1 -> Calls Tryz.prog 118 #[.agg #[.pointer (some ⟨g, 0, none⟩), .pointer pe]] w1 (InPost w1 (.loop a) pa env)) := fun w1 h => inside_any g 114 [] 0 pa none pe w1 (.loop a) env (block_up h hb) (ht.up h) (he.up h)
 by_cases hl : ∃ x, v = .f x
 · obtain ⟨x, rfl⟩ := hl
   obtain ⟨px, ⟨gv, rfl, hbv⟩, hx⟩ := hv
   have d0 : w.cell? ⟨gv, 0, none⟩ = some (.int .u8 102) := block_cell hbv 0
   have lgv := lt_of_block hbv
   have d2 : w.cell? ⟨gv, 2, none⟩ = some (.pointer px) := block_cell hbv 2
   have HC : Hid (∀ w1 f g', Below w.heap.size w w1 -> FAt w1 ((.loop a, f) :: env) (some ⟨g', 0, none⟩) -> Calls Tryz.prog 107 #[.agg #[.pointer pa, .pointer (some ⟨g', 0, none⟩)], .pointer px, .int .i64 n] w1 fun e w' => e = .returned (.bool (x.isOf n (.loop a :: env.map (·.1)) a)) /\ Below w1.heap.size w1 w') := fun w1 f g' h hf => hsub x (by simp only [V.nodes]; omega) a ((.loop a, f) :: env) w1 pa (some ⟨g', 0, none⟩) px n (ha.up h) hf (hx.up h) hs hbs (hE.cons hs hbs) hok
   show Calls _ _ _ _ (fun e w' => e = .returned (.bool (x.isOf n (.loop a :: env.map (·.1)) a)) /\ _)
   generalize x.isOf n (.loop a :: env.map (·.1)) a = bx at *
   clear hb ha he hx hs hbs hE hok hbv hsub ht
   go_enter Tryz.func107, Tryz.ntmps107
   go_wp2_with (go_at_call 118; (with_reducible refine (HI.out _ (up1 w _)).mono ?_); rintro e w1 ⟨f, g', rfl, hf1, hf2, hF, hb1⟩; have HB1 := Lib.hid (up_trans (up1 w _) hb1); have HF := Lib.hid hF; clear hb1 hF hf1 hf2)
   have BW := up1 w1 (.cells #[.pointer pa, .pointer (some ⟨g', 0, none⟩)] 71)
   have CW := block_new w1 (.cells #[.pointer pa, .pointer (some ⟨g', 0, none⟩)] 71)
   generalize (w1.alloc (.cells #[.pointer pa, .pointer (some ⟨g', 0, none⟩)] 71)) = W1 at *
   have HS : Hid (∀ w', Below W1.heap.size W1 w' -> w'.cell? ⟨w1.heap.size, 0, none⟩ = some (.pointer pa) /\ w'.cell? ⟨w1.heap.size, 1, none⟩ = some (.pointer (some ⟨g', 0, none⟩)) /\ w'.cell? ⟨gv, 0, none⟩ = some (.int .u8 102) /\ w'.cell? ⟨gv, 2, none⟩ = some (.pointer px)) := fun w' h => ⟨cell_up h (block_cell CW 0), cell_up h (block_cell CW 1), cell_up (up_trans (up_trans HB1.out BW) h) d0, cell_up (up_trans (up_trans HB1.out BW) h) d2⟩
   have HBW : Hid (Below w.heap.size w W1) := up_trans HB1.out BW
   have HFW := Lib.hid (HF.out.up BW)
   obtain ⟨e0, e1, e2, e3⟩ := HS.out W1 (Below.refl _ _)
   clear BW CW
   refine wp_region_noPanic ?_
   refine wp_region_held_drew (S := (fun w' => w'.cell? ⟨w1.heap.size, 0, none⟩ = some (.pointer pa) /\ w'.cell? ⟨w1.heap.size, 1, none⟩ = some (.pointer (some ⟨g', 0, none⟩)) /\ w'.cell? ⟨gv, 0, none⟩ = some (.int .u8 102) /\ w'.cell? ⟨gv, 2, none⟩ = some (.pointer px))) (by kernel_rfl) (by exact HS.out _ (up_drew (Below.refl _ _))) (fun hHeld => ?_)
   refine tq 0 rfl ?_
   refine tq 1 rfl ?_
   refine tq 2 rfl ?_
   refine tq 3 rfl ?_
   refine tq 4 rfl ?_
   refine tq 5 rfl ?_
   refine tq 6 rfl ?_
   refine tq 7 rfl ?_
   refine tq 8 rfl ?_
   refine tq 9 rfl ?_
   refine tq 10 rfl ?_
   refine tq 11 rfl ?_
   refine tz 12 rfl fun K hK => ?_
   go_simp
   go_at_call 107
   (with_reducible refine (HC.out _ f g' (up_drew HBW.out) (HFW.out.up (up_drew (Below.refl _ _)))).mono ?_)
   rintro e w2 ⟨rfl, hb2⟩
   have K2 : Hid (Below W1.heap.size W1 w2) := up_trans (up_drew (Below.refl _ _)) hb2
   clear hb2
   refine hK.out _ _ (by exact HS.out _ K2.out) (fun hHeld => ?_)
   clear hK
   try simp only [Act.put, zA, zB, zC, zD, zE, zF]
   refine tq 13 rfl ?_
   refine tq 14 rfl ?_
   refine wpAnyH_done (by kernel_rfl) ?_ _
   refine NoPanic.normal ?_
   all_goals go_wp2
   all_goals go_ret
   all_goals exact ⟨rfl, up_trans HBW.out K2.out⟩
 · obtain ⟨gv, el, qa, qb, rfl, hbv⟩ := hv.vn
   have d0 : w.cell? ⟨gv, 0, none⟩ = some (.int .u8 v.sg) := block_cell hbv 0
   have lgv := lt_of_block hbv
   have hF : v.isOf n (env.map (·.1)) (.loop a) = false := by cases v <;> first | rfl | exact absurd ⟨_, rfl⟩ hl
   have h1 : (v.sg == 102) = false := by cases v <;> first | rfl | exact absurd ⟨_, rfl⟩ hl
   rw [hF]
   generalize v.sg = sg at *
   clear hb ha he hv hs hbs hE hok hbv hsub hl hF ht
   go_enter Tryz.func107, Tryz.ntmps107
   go_wp2_with (go_at_call 118; (with_reducible refine (HI.out _ (up1 w _)).mono ?_); rintro e w1 ⟨f, g', rfl, hf1, hf2, hF, hb1⟩; have HB1 := Lib.hid (up_trans (up1 w _) hb1); have HF := Lib.hid hF; clear hb1 hF hf1 hf2)
   have BW := up1 w1 (.cells #[.pointer pa, .pointer (some ⟨g', 0, none⟩)] 71)
   have CW := block_new w1 (.cells #[.pointer pa, .pointer (some ⟨g', 0, none⟩)] 71)
   generalize (w1.alloc (.cells #[.pointer pa, .pointer (some ⟨g', 0, none⟩)] 71)) = W1 at *
   have HBW : Hid (Below w.heap.size w W1) := up_trans HB1.out BW
   have e2 := cell_up HBW.out d0
   clear BW CW
   refine wp_region_noPanic ?_
   refine wp_region_held_drew (S := (fun w' => w'.cell? ⟨gv, 0, none⟩ = some (.int .u8 sg))) (by kernel_rfl) (by exact cell_up (up_drew (Below.refl _ _)) e2) (fun hHeld => ?_)
   refine tq 0 rfl ?_
   refine tq 1 rfl ?_
   refine tq 2 rfl ?_
   refine tq 3 rfl ?_
   refine tq 4 rfl ?_
   refine tq 5 rfl ?_
   refine tn 6 rfl ?_
   try simp only [Act.put, zA, zB, zC, zD, zE, zF]
   refine tn 7 rfl ?_
   try simp only [Act.put, zA, zB, zC, zD, zE, zF]
   refine tn 8 rfl ?_
   try simp only [Act.put, zA, zB, zC, zD, zE, zF]
   refine tn 9 rfl ?_
   try simp only [Act.put, zA, zB, zC, zD, zE, zF]
   refine tn 10 rfl ?_
   try simp only [Act.put, zA, zB, zC, zD, zE, zF]
   refine tn 11 rfl ?_
   try simp only [Act.put, zA, zB, zC, zD, zE, zF]
   refine tn 12 rfl ?_
   try simp only [Act.put, zA, zB, zC, zD, zE, zF]
   refine tq 13 rfl ?_
   refine tq 14 rfl ?_
   refine wpAnyH_done (by kernel_rfl) ?_ _
   refine NoPanic.normal ?_
   go_wp2
   go_ret
   exact ⟨rfl, up_drew HBW.out⟩
theorem isOf_bound (v : V) (k : Nat) (hsub : ∀ v' : V, v'.nodes < v.nodes -> ∀ t, IOf v' t) : IOf v (.bound k) := by
 rintro env w p pe pv n ⟨g, rfl, hb⟩ he hv hs hbs hE hok
 have c0 : w.cell? ⟨g, 0, none⟩ = some (.int .u8 98) := block_cell hb 0
 have lg := lt_of_block hb
 have hkl : k < env.length := hs
 obtain ⟨_, q, e, rest, pr, hd, hme, hfb, hte, hre, _⟩ := he.drop k hkl
 have HBd : Hid (∀ w1, Below w.heap.size w w1 -> Calls Tryz.prog 133 #[.agg #[.pointer (some ⟨g, 0, none⟩), .pointer pe]] w1 fun x w' => x = .returned (.pointer (some ⟨e.2, 0, none⟩)) /\ Below w1.heap.size w1 w') := fun w1 h => bound_any g 98 [] k none none env pe w1 (block_up h hb) (he.up h) hkl hbs e.2 ⟨e, rest, hd, rfl⟩
 have hE2 : (env.map (·.1)).drop k = e.1 :: rest.map (·.1) := by rw [<- List.map_drop, hd]; rfl
 obtain ⟨a, rest2, hd2, hsa, hEr⟩ := hE.1.drop k (by simpa using hkl)
 rw [hE2] at hd2
 injection hd2 with h1 h2
 have HF : Hid (∀ w1, Below w.heap.size w w1 -> w1.cell? ⟨e.2, 0, none⟩ = some (.pointer pr) /\ w1.cell? ⟨e.2, 1, none⟩ = some (.pointer q)) := fun w1 h => ⟨block_cell (block_up h hfb) 0, block_cell (block_up h hfb) 1⟩
 have hr : v.isOf n (env.map (·.1)) (.bound k) = v.isOf n (rest.map (·.1)) (.loop a) := by
  cases v <;> try rfl
  simp only [V.isOf]
  rw [hE2, h1]
 have HC : Hid (∀ w1, Below w.heap.size w w1 -> Calls Tryz.prog 107 #[.agg #[.pointer pr, .pointer q], .pointer pv, .int .i64 n] w1 fun e w' => e = .returned (.bool (v.isOf n (rest.map (·.1)) (.loop a))) /\ Below w1.heap.size w1 w') := fun w1 h => isOf_loop v a hsub rest w1 pr q pv n (by rw [<- h1]; exact hte.up h) (hre.up h) (hv.up h) (by
  have : a.scoped (rest2.length + 1) := hsa
  rw [<- h2] at this
  simpa [Ty.scoped] using this) (hE.2 (.loop a) (by rw [<- h1]; exact List.mem_map.2 ⟨e, hme, rfl⟩)) ⟨by rw [h2]; exact hEr, fun T hT => hE.2 T (by
   obtain ⟨e', he', rfl⟩ := List.mem_map.1 hT
   exact List.mem_map.2 ⟨e', List.mem_of_mem_drop (i := k) (by rw [hd]; exact List.mem_cons_of_mem _ he'), rfl⟩)⟩ hok
 rw [hr]
 generalize v.isOf n (rest.map (·.1)) (.loop a) = bx at *
 generalize e.2 = ge at *
 clear hb he hv hs hbs hE hok hsub hkl hd hfb hte hre hE2 hsa hEr h1 h2 hr
 go_enter Tryz.func107, Tryz.ntmps107
 go_wp2_with (first
  | (go_at_call 133; (with_reducible refine (HBd.out _ (up1 w _)).mono ?_); rintro e w1 ⟨rfl, hb1⟩; have HB1 := Lib.hid (up_trans (up1 w _) hb1); obtain ⟨f0, f1⟩ := HF.out w1 HB1.out; clear hb1)
  | (go_at_call 107; (with_reducible refine (HC.out _ HB1.out).mono ?_); rintro e w2 ⟨rfl, hb2⟩; have HB2 := Lib.hid (up_trans HB1.out hb2); clear hb2))
 go_ret
 exact ⟨rfl, HB2.out⟩
theorem isOf_any : ∀ (n : Nat) (v : V), v.nodes <= n -> ∀ t : Ty, IOf v t := by
 intro n
 induction n with
 | zero => intro v h; have : 1 <= v.nodes := by cases v <;> simp only [V.nodes] <;> omega
           omega
 | succ n ih =>
  intro v h t
  have hsub : ∀ v' : V, v'.nodes < v.nodes -> ∀ t, IOf v' t := fun v' h' => ih v' (by omega)
  cases t with
  | zero => exact isOf_zero v
  | one => exact isOf_one v
  | name x => exact isOf_name v x
  | bound k => exact isOf_bound v k hsub
  | sum a b => exact isOf_sum v a b hsub
  | prod a b => exact isOf_prod v a b hsub
  | loop a => exact isOf_loop v a hsub
end Go.Proofs.YtpokompplapkhaaGreatDoor

