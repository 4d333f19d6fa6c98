/- The program's holesOf. -/
import Derived.Test.YtpokompplapkhaaGreatDoorHolI
import Derived.Test.YtpokompplapkhaaGreatDoorIsOf2
import Derived.Test.YtpokompplapkhaaGreatDoorTk
import Derived.LaidEqlPtr
namespace Go.Proofs.YtpokompplapkhaaGreatDoor
set_option maxHeartbeats 4000000
open Go.RowKit
set_option linter.unusedVariables false
set_option linter.unusedSimpArgs false
theorem isAt_nm (x0 : List UInt8) (g : Nat) (sg : Int) (nm : List UInt8) (up : Int) (pa pb pe : Option Addr) (w : World) (hb : w.heap[g]? = some (.cells #[.int .u8 sg, .string (St nm), .int .i64 up, .pointer pa, .pointer pb] 124 (0, 0))) (hx : (sg == 110) = true -> False) :
 Calls Tryz.prog 109 #[.agg #[.string (St x0), .pointer none], .agg #[.pointer (some ⟨g, 0, none⟩), .pointer pe]] w fun e w' => e = .returned (.bool false) /\ Below w.heap.size w w' := by
 have c0 : w.cell? ⟨g, 0, none⟩ = some (.int .u8 sg) := block_cell hb 0
 have lg := lt_of_block hb
 have h1 : decide (sg = 110) = false := by simpa using hx
 have h2 : (sg == 110) = false := by simpa using hx
 clear hb hx
 go_enter Tryz.func109, Tryz.ntmps109
 go_wp2
 go_quiet (fail)
 all_goals go_wp2
 all_goals go_ret
 all_goals exact ⟨rfl, by repeat (first | exact Below.refl _ _ | refine up_drew ?_ | refine up_alloc ?_ _ | refine up_trans ?_ (up_drewN _ _))⟩
theorem isAt_name (x0 : List UInt8) (g : Nat) (s : List UInt8) (up : Int) (pa pb pe : Option Addr) (w : World) (hb : w.heap[g]? = some (.cells #[.int .u8 110, .string (St s), .int .i64 up, .pointer pa, .pointer pb] 124 (0, 0))) :
 Calls Tryz.prog 109 #[.agg #[.string (St x0), .pointer none], .agg #[.pointer (some ⟨g, 0, none⟩), .pointer pe]] w fun e w' => e = .returned (.bool (decide (s = x0))) /\ Below w.heap.size w w' := by
 have c0 : w.cell? ⟨g, 0, none⟩ = some (.int .u8 110) := block_cell hb 0
 have c1 : w.cell? ⟨g, 1, none⟩ = some (.string (St s)) := block_cell hb 1
 have lg := lt_of_block hb
 clear hb
 by_cases hs : s = x0
 · subst hs
   have h1 : (s == s) = true := by simp
   rw [decide_eq_true rfl]
   go_enter Tryz.func109, Tryz.ntmps109
   go_wp2
   go_quiet (fail)
   all_goals go_wp2
   all_goals go_ret
   all_goals exact ⟨rfl, by repeat (first | exact Below.refl _ _ | refine up_drew ?_ | refine up_alloc ?_ _ | refine up_trans ?_ (up_drewN _ _))⟩
 · have h1 : (s == x0) = false := St_ne hs
   rw [decide_eq_false hs]
   clear hs
   go_enter Tryz.func109, Tryz.ntmps109
   go_wp2
   go_quiet (fail)
   all_goals go_wp2
   all_goals go_ret
   all_goals exact ⟨rfl, by repeat (first | exact Below.refl _ _ | refine up_drew ?_ | refine up_alloc ?_ _ | refine up_trans ?_ (up_drewN _ _))⟩
theorem Tryz.infoFrame : (Tryz.prog.info? 155).map (fun i => i.size) = some 2 := by kernel_rfl
theorem eq_ptr (W : World) (f fk : Nat) (cf ck : Array Value) (tf tyk : TypeId) (h1 : W.heap[f]? = some (.cells cf tf (0, 0))) (h2 : W.heap[fk]? = some (.cells ck tyk (0, 0))) :
 (binOp BinOp.eql 72 (Value.pointer (some ⟨f, 0, none⟩)) (Value.pointer (some ⟨fk, 0, none⟩))).run Tryz.prog W = .ok (.bool (decide (f = fk))) W := by
 obtain ⟨j, hj, hjs⟩ : ∃ j, Tryz.prog.info? 155 = some j /\ j.size ≠ 0 := by
  have := Tryz.infoFrame
  cases hj : Tryz.prog.info? 155 with
  | none => rw [hj] at this; cases this
  | some j =>
   rw [hj] at this
   have : j.size = 2 := by simpa using this
   exact ⟨j, rfl, by omega⟩
 by_cases h : f = fk
 · subst h
   rw [decide_eq_true rfl]
   exact run_eql_ptr_same W _ Tryz.underlying72 hj
 · rw [decide_eq_false h]
   exact run_eql_ptr_other W Tryz.underlying72 hj hjs (fun e => h (by cases e; rfl)) h1 h2
theorem isAt_bd (fk g : Nat) (sg : Int) (nm : List UInt8) (up : Int) (pa pb : Option Addr) (pe : Option Addr) (w : World) (hb : w.heap[g]? = some (.cells #[.int .u8 sg, .string (St nm), .int .i64 up, .pointer pa, .pointer pb] 124 (0, 0))) (hx : (sg == 98) = true -> False) :
 Calls Tryz.prog 109 #[.agg #[.string (St []), .pointer (some ⟨fk, 0, none⟩)], .agg #[.pointer (some ⟨g, 0, none⟩), .pointer pe]] w fun e w' => e = .returned (.bool false) /\ Below w.heap.size w w' := by
 have HS0 : Hid (∀ w', Below w.heap.size w w' -> w'.cell? ⟨g, 0, none⟩ = some (.int .u8 sg)) := fun w' h => block_cell (block_up h hb) 0
 have c0 := HS0.out w (Below.refl _ _)
 have lg := lt_of_block hb
 have h1 : decide (sg = 98) = false := by simpa using hx
 have h2 : (sg == 98) = false := by simpa using hx
 clear hb hx
 go_enter Tryz.func109, Tryz.ntmps109
 go_wp2
 have B0 := old2 w (.cells #[.string (St []), .pointer (some ⟨fk, 0, none⟩)] 74) (.cells #[.pointer (some ⟨g, 0, none⟩), .pointer pe] 71)
 have B1 := new2 w (.cells #[.string (St []), .pointer (some ⟨fk, 0, none⟩)] 74) (.cells #[.pointer (some ⟨g, 0, none⟩), .pointer pe] 71)
 have HBW : Hid (Below w.heap.size w ((w.alloc (.cells #[.string (St []), .pointer (some ⟨fk, 0, none⟩)] 74)).alloc (.cells #[.pointer (some ⟨g, 0, none⟩), .pointer pe] 71))) := up_alloc (up1 w _) _
 (try simp only [show St [] = (⟨#[]⟩ : ByteArray) from rfl] at *)
 generalize ((w.alloc (.cells #[.string _, .pointer (some ⟨fk, 0, none⟩)] 74)).alloc (.cells #[.pointer (some ⟨g, 0, none⟩), .pointer pe] 71)) = W1 at *
 have HS : Hid (∀ w', Below W1.heap.size W1 w' -> w'.cell? ⟨w.heap.size, 1, none⟩ = some (.pointer (some ⟨fk, 0, none⟩)) /\ w'.cell? ⟨w.heap.size + 1, 0, none⟩ = some (.pointer (some ⟨g, 0, none⟩)) /\ w'.cell? ⟨w.heap.size + 1, 1, none⟩ = some (.pointer pe) /\ w'.cell? ⟨g, 0, none⟩ = some (.int .u8 sg)) := fun w' h => ⟨block_cell (block_up h B0) 1, block_cell (block_up h B1) 0, block_cell (block_up h B1) 1, HS0.out w' (up_trans HBW.out h)⟩
 obtain ⟨s0, s1, s2, s3⟩ := HS.out W1 (Below.refl _ _)
 clear c0 B0 B1
 refine wp_region_noPanic ?_
 refine wp_region_held_drew (S := (fun w' => w'.cell? ⟨w.heap.size, 1, none⟩ = some (.pointer (some ⟨fk, 0, none⟩)) /\ w'.cell? ⟨w.heap.size + 1, 0, none⟩ = some (.pointer (some ⟨g, 0, none⟩)) /\ w'.cell? ⟨w.heap.size + 1, 1, none⟩ = some (.pointer pe) /\ w'.cell? ⟨g, 0, none⟩ = some (.int .u8 sg))) (by kernel_rfl) (by exact HS.out _ (up_drew (Below.refl _ _))) (fun hHeld => ?_)
 refine tq 0 rfl ?_
 refine tq 1 rfl ?_
 refine tq 2 rfl ?_
 refine tq 3 rfl ?_
 refine tq 4 rfl ?_
 refine tq 5 rfl ?_
 refine tq 6 rfl ?_
 refine tn 7 rfl ?_
 try simp only [Act.put, zA, zB, zC, zD, zE, zF]
 refine tn 8 rfl ?_
 try simp only [Act.put, zA, zB, zC, zD, zE, zF]
 refine tn 9 rfl ?_
 try simp only [Act.put, zA, zB, zC, zD, zE, zF]
 refine tn 10 rfl ?_
 try simp only [Act.put, zA, zB, zC, zD, zE, zF]
 refine tn 11 rfl ?_
 try simp only [Act.put, zA, zB, zC, zD, zE, zF]
 refine tq 12 rfl ?_
 refine tq 13 rfl ?_
 refine wpAnyH_done (by kernel_rfl) ?_ _
 refine NoPanic.normal ?_
 all_goals go_wp2
 all_goals go_ret
 all_goals exact ⟨rfl, up_drew HBW.out⟩
theorem isAt_bound (fk g : Nat) (nm : List UInt8) (j f : Nat) (pa pb : Option Addr) (pe : Option Addr) (w : World) (hb : w.heap[g]? = some (.cells #[.int .u8 98, .string (St nm), .int .i64 j, .pointer pa, .pointer pb] 124 (0, 0))) (env : List (Ty × Nat)) (he : FAt w env pe) (hk : j < env.length) (hkb : j <= 1000000) (hf : ∃ e rest, env.drop j = e :: rest /\ e.2 = f) (cf ck : Array Value) (tf tyk : TypeId) (hf1 : w.heap[f]? = some (.cells cf tf (0, 0))) (hf2 : w.heap[fk]? = some (.cells ck tyk (0, 0))) :
 Calls Tryz.prog 109 #[.agg #[.string (St []), .pointer (some ⟨fk, 0, none⟩)], .agg #[.pointer (some ⟨g, 0, none⟩), .pointer pe]] w fun e w' => e = .returned (.bool (decide (f = fk))) /\ Below w.heap.size w w' := by
 have HS0 : Hid (∀ w', Below w.heap.size w w' -> w'.cell? ⟨g, 0, none⟩ = some (.int .u8 98)) := fun w' h => block_cell (block_up h hb) 0
 have c0 := HS0.out w (Below.refl _ _)
 have lg := lt_of_block hb
 have HBd : Hid (∀ w1, Below w.heap.size w w1 -> Calls Tryz.prog 133 #[.agg #[.pointer (some ⟨g, 0, none⟩), .pointer pe]] w1 fun e w' => e = .returned (.pointer (some ⟨f, 0, none⟩)) /\ Below w1.heap.size w1 w') := fun w1 h => bound_any g 98 nm j pa pb env pe w1 (block_up h hb) (he.up h) hk hkb f hf
 have HQ : Hid (∀ w' (v : Bool), v = decide (f = fk) -> Below w.heap.size w w' -> (Ending.returned (.bool v) = .returned (.bool (decide (f = fk))) /\ Below w.heap.size w w')) := fun w' v h hb => ⟨by rw [h], hb⟩
 have HF12 : Hid (w.heap[f]? = some (.cells cf tf (0, 0)) /\ w.heap[fk]? = some (.cells ck tyk (0, 0))) := ⟨hf1, hf2⟩
 clear hb he hk hkb hf hf1 hf2
 go_enter Tryz.func109, Tryz.ntmps109
 go_wp2
 have B0 := old2 w (.cells #[.string (St []), .pointer (some ⟨fk, 0, none⟩)] 74) (.cells #[.pointer (some ⟨g, 0, none⟩), .pointer pe] 71)
 have B1 := new2 w (.cells #[.string (St []), .pointer (some ⟨fk, 0, none⟩)] 74) (.cells #[.pointer (some ⟨g, 0, none⟩), .pointer pe] 71)
 have HBW : Hid (Below w.heap.size w ((w.alloc (.cells #[.string (St []), .pointer (some ⟨fk, 0, none⟩)] 74)).alloc (.cells #[.pointer (some ⟨g, 0, none⟩), .pointer pe] 71))) := up_alloc (up1 w _) _
 (try simp only [show St [] = (⟨#[]⟩ : ByteArray) from rfl] at *)
 generalize ((w.alloc (.cells #[.string _, .pointer (some ⟨fk, 0, none⟩)] 74)).alloc (.cells #[.pointer (some ⟨g, 0, none⟩), .pointer pe] 71)) = W1 at *
 have HS : Hid (∀ w', Below W1.heap.size W1 w' -> w'.cell? ⟨w.heap.size, 1, none⟩ = some (.pointer (some ⟨fk, 0, none⟩)) /\ w'.cell? ⟨w.heap.size + 1, 0, none⟩ = some (.pointer (some ⟨g, 0, none⟩)) /\ w'.cell? ⟨w.heap.size + 1, 1, none⟩ = some (.pointer pe) /\ w'.cell? ⟨g, 0, none⟩ = some (.int .u8 98) /\ w'.heap[f]? = some (.cells cf tf (0, 0)) /\ w'.heap[fk]? = some (.cells ck tyk (0, 0))) := fun w' h => ⟨block_cell (block_up h B0) 1, block_cell (block_up h B1) 0, block_cell (block_up h B1) 1, HS0.out w' (up_trans HBW.out h), block_up (up_trans HBW.out h) HF12.out.1, block_up (up_trans HBW.out h) HF12.out.2⟩
 obtain ⟨s0, s1, s2, s3, s4⟩ := HS.out W1 (Below.refl _ _)
 clear c0 B0 B1
 refine wp_region_noPanic ?_
 refine wp_region_held_drew (S := (fun w' => w'.cell? ⟨w.heap.size, 1, none⟩ = some (.pointer (some ⟨fk, 0, none⟩)) /\ w'.cell? ⟨w.heap.size + 1, 0, none⟩ = some (.pointer (some ⟨g, 0, none⟩)) /\ w'.cell? ⟨w.heap.size + 1, 1, none⟩ = some (.pointer pe) /\ w'.cell? ⟨g, 0, none⟩ = some (.int .u8 98) /\ w'.heap[f]? = some (.cells cf tf (0, 0)) /\ w'.heap[fk]? = some (.cells ck tyk (0, 0)))) (by kernel_rfl) (by exact HS.out _ (up_drew (Below.refl _ _))) (fun hHeld => ?_)
 refine tq 0 rfl ?_
 refine tq 1 rfl ?_
 refine tq 2 rfl ?_
 refine tq 3 rfl ?_
 refine tq 4 rfl ?_
 refine tq 5 rfl ?_
 refine tq 6 rfl ?_
 refine tq 7 rfl ?_
 refine tq 9 rfl ?_
 refine tq 10 rfl ?_
 refine tz 8 rfl fun K hK => ?_
 go_simp
 go_at_call 133
 (with_reducible refine (HBd.out _ (up_trans HBW.out (up_drew (Below.refl _ _)))).mono ?_)
 rintro e w2 ⟨rfl, hb2⟩
 have HB2 : Hid (Below W1.heap.size W1 w2) := up_trans (up_drew (Below.refl _ _)) hb2
 clear hb2
 refine hK.out _ _ (by exact HS.out _ HB2.out) (fun hHeld => ?_)
 clear hK
 try simp only [Act.put, zA, zB, zC, zD, zE, zF]
 refine tk 11 ?_ rfl ?_ ?_
 rotate_left
 · intro W hSW; (try dsimp only at hSW); go_simp; rw [eq_ptr W f fk cf ck tf tyk hSW.2.2.2.2.1 hSW.2.2.2.2.2]; rfl
 try simp only [Act.put, zA, zB, zC, zD, zE, zF]
 refine tq 12 rfl ?_
 refine tq 13 rfl ?_
 refine wpAnyH_done (by kernel_rfl) ?_ _
 refine NoPanic.normal ?_
 all_goals go_wp2
 all_goals go_ret
 all_goals refine HQ.out _ _ (by first | rfl | simp | (by_cases h : f = fk <;> simp [h])) (up_trans HBW.out HB2.out)
theorem nodup_get {l : List Nat} (h : l.Nodup) {i j a : Nat} (hi : l[i]? = some a) (hj : l[j]? = some a) : i = j := by
 have h1 := List.getElem?_eq_some_iff.1 hi
 have h2 := List.getElem?_eq_some_iff.1 hj
 have hp := List.pairwise_iff_getElem.1 h
 rcases Nat.lt_trichotomy i j with hlt | he | hlt
 · exact absurd (h1.2.trans h2.2.symm) (hp i j h1.1 h2.1 hlt)
 · exact he
 · exact absurd (h2.2.trans h1.2.symm) (hp j i h2.1 h1.1 hlt)
theorem isAt_any (t : Ty) (env : List (Ty × Nat)) (p pe : Option Addr) (tg : Tg) (x0 : List UInt8) (fr : Option Addr) (w : World) (ht : TyAt w t p) (he : FAt w env pe) (hs : t.scoped env.length) (hbs : t.bs) (hd : (env.map (·.2)).Nodup) (hg : TgV env tg (.agg #[.string (St x0), .pointer fr])) :
 Calls Tryz.prog 109 #[.agg #[.string (St x0), .pointer fr], .agg #[.pointer p, .pointer pe]] w fun e w' => e = .returned (.bool (tg.at t)) /\ Below w.heap.size w w' := by
 cases tg with
 | nm x =>
  have hg : (Value.agg #[.string (St x0), .pointer fr]) = .agg #[.string (St x), .pointer none] := hg
  simp only [Value.agg.injEq, Array.mk.injEq, List.cons.injEq, Value.string.injEq, Value.pointer.injEq, and_true] at hg
  obtain ⟨hx, rfl⟩ := hg
  have hx := St_inj.1 hx
  subst hx
  cases t with
  | name s =>
   obtain ⟨g, rfl, hb⟩ := ht
   exact isAt_name x0 g s 0 none none pe w hb
  | zero => obtain ⟨g, rfl, hb⟩ := ht; exact isAt_nm x0 g _ _ _ _ _ pe w hb (by decide)
  | one => obtain ⟨g, rfl, hb⟩ := ht; exact isAt_nm x0 g _ _ _ _ _ pe w hb (by decide)
  | bound k => obtain ⟨g, rfl, hb⟩ := ht; exact isAt_nm x0 g _ _ _ _ _ pe w hb (by decide)
  | sum a b => obtain ⟨pa, pb, ⟨g, rfl, hb⟩, _, _⟩ := ht; exact isAt_nm x0 g _ _ _ _ _ pe w hb (by decide)
  | prod a b => obtain ⟨pa, pb, ⟨g, rfl, hb⟩, _, _⟩ := ht; exact isAt_nm x0 g _ _ _ _ _ pe w hb (by decide)
  | loop a => obtain ⟨pa, ⟨g, rfl, hb⟩, _⟩ := ht; exact isAt_nm x0 g _ _ _ _ _ pe w hb (by decide)
 | bd k =>
  obtain ⟨e, hek, hg⟩ := hg
  simp only [Value.agg.injEq, Array.mk.injEq, List.cons.injEq, Value.string.injEq, Value.pointer.injEq, and_true] at hg
  obtain ⟨hx, rfl⟩ := hg
  have hx := St_inj.1 hx
  subst hx
  cases t with
  | bound j =>
   obtain ⟨g, rfl, hb⟩ := ht
   have hj : j < env.length := hs
   obtain ⟨_, _, e', rest, _, hdj, _, hb1, _⟩ := he.drop j hj
   have hkl : k < env.length := (List.getElem?_eq_some_iff.1 hek).1
   obtain ⟨_, _, e2, rest2, _, hdk, _, hb2, _⟩ := he.drop k hkl
   have he2 : e2 = e := by
    have := congrArg List.head? hdk
    rw [List.head?_drop, hek] at this
    simpa using this.symm
   rw [he2] at hb2
   have := isAt_bound e.2 g [] j e'.2 none none pe w hb env he hj hbs ⟨e', rest, hdj, rfl⟩ _ _ _ _ hb1 hb2
   have hej : env[j]? = some e' := by
    have := congrArg List.head? hdj
    rwa [List.head?_drop] at this
   have hiff : (e'.2 = e.2) ↔ (j = k) := ⟨fun h => nodup_get hd (i := j) (j := k) (a := e.2) (by rw [List.getElem?_map, hej]; simp [h]) (by rw [List.getElem?_map, hek]; rfl), fun h => by
    subst h
    rw [hej] at hek
    cases hek
    rfl⟩
   have hz : (Tg.bd k).at (.bound j) = decide (e'.2 = e.2) := by
    show decide (j = k) = _
    exact decide_eq_decide.2 hiff.symm
   rw [hz]
   exact this
  | zero => obtain ⟨g, rfl, hb⟩ := ht; exact isAt_bd _ g _ _ _ _ _ pe w hb (by decide)
  | one => obtain ⟨g, rfl, hb⟩ := ht; exact isAt_bd _ g _ _ _ _ _ pe w hb (by decide)
  | name s => obtain ⟨g, rfl, hb⟩ := ht; exact isAt_bd _ g _ _ _ _ _ pe w hb (by decide)
  | sum a b => obtain ⟨pa, pb, ⟨g, rfl, hb⟩, _, _⟩ := ht; exact isAt_bd _ g _ _ _ _ _ pe w hb (by decide)
  | prod a b => obtain ⟨pa, pb, ⟨g, rfl, hb⟩, _, _⟩ := ht; exact isAt_bd _ g _ _ _ _ _ pe w hb (by decide)
  | loop a => obtain ⟨pa, ⟨g, rfl, hb⟩, _⟩ := ht; exact isAt_bd _ g _ _ _ _ _ pe w hb (by decide)
end Go.Proofs.YtpokompplapkhaaGreatDoor

