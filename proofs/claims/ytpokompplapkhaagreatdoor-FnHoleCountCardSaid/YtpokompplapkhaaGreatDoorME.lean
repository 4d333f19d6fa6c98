/- Appends of a row, maybe an empty one, onto a row that the call owns. The program's types: typeOf, atoms, readType. typeOf at lists (under way). typeOf at the rest, whole; readType, TypeValid, TypeSize. readType, TypeValid, TypeSize. -/
import Derived.Test.YtpokompplapkhaaGreatDoorMC
import Derived.Deep.AppendLies
import Derived.Deep.Upon
import Derived.Deep.RegionHeld3
import Derived.Test.YtpokompplapkhaaGreatDoorMD
import Derived.Deep.QuietTactic
import Derived.BigQuiet
namespace Go.Proofs.YtpokompplapkhaaGreatDoor
set_option maxHeartbeats 8000000
set_option maxRecDepth 100000
open Go.RowKit
set_option linter.unusedVariables false
set_option linter.unusedSimpArgs false
def RCells (w : World) (A : Option Addr) (news : List Value) : Prop :=
 news = [] \/ ∃ g o, A = some ⟨g, o, none⟩ /\ ∀ j u, news[j]? = some u -> w.cell? ⟨g, o + j, none⟩ = some u
theorem RCells.up {w w1 : World} {A : Option Addr} {ls : List Value} (h : RCells w A ls) (hb : Below w.heap.size w w1) : RCells w1 A ls := by
 rcases h with h | ⟨g, o, rfl, h⟩
 · exact .inl h
 · exact .inr ⟨g, o, rfl, fun i l hl => cell_up hb (h i l hl)⟩
theorem SCells.row {w : World} {A : Option Addr} {ls : List (List UInt8)} (h : SCells w A ls) : RCells w A (strs ls) := by
 rcases h with h | ⟨g, o, rfl, h⟩
 · exact .inl (by rw [h]; rfl)
 · refine .inr ⟨g, o, rfl, fun j u hu => ?_⟩
   simp only [strs, List.getElem?_map, Option.map_eq_some_iff] at hu
   obtain ⟨l, hl, rfl⟩ := hu
   exact h j l hl
theorem own_nil (w : World) (B : Nat) (hB : B <= w.heap.size) (e : TypeId) : (w.alloc (.cells #[] e)).ownsRow B e 1 (.slice (some ⟨w.heap.size, 0, none⟩) 0 0) 0 [] :=
 World.ownsRow_lit (e := e) (size := 1) w #[] 0 hB (by decide) (by simp)
theorem own_heap {W W' : World} {B : Nat} {e : TypeId} {v : Value} {n : Nat} {xs : List Value} (h : W.heap = W'.heap) (ho : W.ownsRow B e 1 v n xs) : W'.ownsRow B e 1 v n xs := by
 obtain ⟨h1, h2⟩ := ho
 refine ⟨h1, ?_⟩
 rw [<- h]
 exact h2
theorem new2 (w : World) (o1 o2 : Obj) : ((w.alloc o1).alloc o2).heap[w.heap.size + 1]? = some o2 := by
 have := heap_alloc_new (w.alloc o1) o2
 rw [show (w.alloc o1).heap.size = w.heap.size + 1 by simp] at this
 exact this
theorem own_nilH (w : World) (B : Nat) (hB : B <= w.heap.size) (e : TypeId) (H : Nat) (hH : w.heap.size = H) : (w.alloc (.cells #[] e)).ownsRow B e 1 (.slice (some ⟨H, 0, none⟩) 0 0) 0 [] := hH ▸ own_nil w B hB e
theorem old2 (w : World) (o1 o2 : Obj) : ((w.alloc o1).alloc o2).heap[w.heap.size]? = some o1 := block_alloc (block_new w o1) o2
theorem row_one {w : World} {k : Nat} {v : Value} (h : w.cell? ⟨k, 0, none⟩ = some v) : RCells w (some ⟨k, 0, none⟩) [v] :=
 .inr ⟨k, 0, rfl, fun j u hu => by
  cases j with
  | zero => simp at hu; subst hu; exact h
  | succ j => simp at hu⟩
section
variable {P : Program} (w : World)
theorem run_append_row (t ty : TypeId) (base : Nat) (e : TypeId) (i : TypeInfo) (z : Value) (bytes : Nat) (ht : P.underlying t = some (.slice e)) (hi : P.info? e = some i) (hz : i.zero = some z)
 (hsize : i.size = 1) (hby : i.bytes = bytes) (hzs : z.cells.size = 1) (g n cap : Nat) (xs : List Value) (hown : w.ownsRow base e 1 (.slice (some ⟨g, 0, none⟩) n cap) n xs)
 (A : Option Addr) (m c : Nat) (news : List Value) (hl : news.length = m) (hnews : RCells w A news) (h1 : ∀ u ∈ news, u.oneCell' = true)
 (hm : n + m <= 1000000000) (hby2 : bytes <= 1000) (hbase : base <= w.heap.size) (N : Nat) (hN : n + m = N) (ys : List Value) (hys : xs ++ news = ys) :
 ∃ g2 c2 w', (Builtin.append_ #[t, t] ty #[.slice (some ⟨g, 0, none⟩) n cap, .slice A m c]).run P w = .ok (.slice (some ⟨g2, 0, none⟩) N c2) w' /\
  w'.ownsRow base e 1 (.slice (some ⟨g2, 0, none⟩) N c2) N ys /\ w.grownBy w' (some g) /\ Below base w w' /\ (g2 = g \/ w.heap.size <= g2) := by
 subst hN
 subst hys
 have hgl : g < w.heap.size := (World.ownsRow.lt hown g rfl).2
 have hgb : base <= g := (World.ownsRow.lt hown g rfl).1
 have hbel : ∀ w', w.grownBy w' (some g) -> Below base w w' := fun w' hg => (Below.refl base w).grown hg hbase (fun k hk => by cases hk; exact hgb)
 cases m with
 | zero =>
  obtain rfl : news = [] := List.eq_nil_of_length_eq_zero hl
  have hle : n <= cap := by
   rcases hown.2 with ⟨h1, _⟩ | ⟨g', cap', cur, h1, _, _, h2, _⟩
   · cases h1
   · cases h1; exact h2
  have hs : Src P i.size t (.slice A 0 c) 0 [] w := by
   cases A with
   | none => exact Src.ofNil w ht c
   | some ad => exact Src.ofSlice w ht ad 0 c [] (by simp) (fun j u hu => by simp at hu) (by simp)
  refine ⟨g, cap, w, run_append_nothing w t t ty e i ht hi (some ⟨g, 0, none⟩) n cap hle _ hs, ?_, ⟨rfl, rfl, rfl, Nat.le_refl _, fun _ _ _ => rfl⟩, Below.refl _ _, .inl rfl⟩
  rw [List.append_nil]
  exact hown
 | succ m =>
  rcases hnews with rfl | ⟨g', o', rfl, hnews⟩
  · simp at hl
  · have hadd : ∀ j, (⟨g', o', none⟩ : Addr).add j = ⟨g', o' + j, none⟩ := fun j => by unfold Addr.add; split <;> simp_all
    obtain ⟨g2, c2, w', hr, h2, h3, h4, h5⟩ := run_append_lies (P := P) w t ty base e i z 1 bytes ht hi hz hsize hby hzs (by decide) _ n xs hown ⟨g', o', none⟩ (m + 1) c news (by omega)
     (fun j u hu => by rw [hadd]; exact hnews j u hu) h1 (by omega) (by unfold maxLen; omega) (Nat.le_trans (Nat.mul_le_mul hm hby2) (by decide)) hbase _ rfl
    exact ⟨g2, c2, w', hr, h2, h3, hbel _ h3, by simp [Value.ownBlock] at h4; omega⟩
theorem wp_append_row {o : Oper} {a : Act} {K : Act -> World -> Prop} {Q : Exit -> Act -> World -> Prop} (s x : Operand) (t : TypeId)
 (ho : o.op = .call { callee := .builtin .append, args := #[s, x], argTypes := #[t, t] })
 (base : Nat) (e : TypeId) (i : TypeInfo) (z : Value) (bytes : Nat) (ht : P.underlying t = some (.slice e)) (hi : P.info? e = some i) (hz : i.zero = some z)
 (hsize : i.size = 1) (hby : i.bytes = bytes) (hzs : z.cells.size = 1) (g n cap : Nat) (xs : List Value) (hs : a.eval s = .slice (some ⟨g, 0, none⟩) n cap) (hown : w.ownsRow base e 1 (.slice (some ⟨g, 0, none⟩) n cap) n xs)
 (A : Option Addr) (m c : Nat) (news : List Value) (hx : a.eval x = .slice A m c) (hl : news.length = m) (hnews : RCells w A news) (h1 : ∀ u ∈ news, u.oneCell' = true)
 (hm : n + m <= 1000000000) (hby2 : bytes <= 1000) (hbase : base <= w.heap.size) (N : Nat) (hN : n + m = N) (ys : List Value) (hys : xs ++ news = ys)
 (h : ∀ g2 c2 w', w'.ownsRow base e 1 (.slice (some ⟨g2, 0, none⟩) N c2) N ys -> w.grownBy w' (some g) -> Below base w w' -> (g2 = g \/ w.heap.size <= g2) -> K (a.put o.dst (.slice (some ⟨g2, 0, none⟩) N c2)) w') : o.wp P a w K Q := by
 obtain ⟨g2, c2, w', hr, h2, h3, h4, h5⟩ := run_append_row (P := P) w t o.type base e i z bytes ht hi hz hsize hby hzs g n cap xs hown A m c news hl hnews h1 hm hby2 hbase N hN ys hys
 unfold Oper.wp execOp
 simp only [ho, resolve, invoke, builtin, Sem.run_bind, Sem.run_pure, Result.andThen_ok, List.map_toArray, List.map_cons, List.map_nil, hs, hx, hr]
 exact h g2 c2 w' h2 h3 h4 h5
theorem step_append_row {ops : Array Oper} {o : Oper} {a : Act} {K : Act -> World -> Prop} {Q : Exit -> Act -> World -> Prop} {E : Prop} (hgd : o.guard = none) (s x : Operand) (t : TypeId)
 (ho : o.op = .call { callee := .builtin .append, args := #[s, x], argTypes := #[t, t] })
 (base : Nat) (e : TypeId) (i : TypeInfo) (z : Value) (bytes : Nat) (ht : P.underlying t = some (.slice e)) (hi : P.info? e = some i) (hz : i.zero = some z)
 (hsize : i.size = 1) (hby : i.bytes = bytes) (hzs : z.cells.size = 1) (g n cap : Nat) (xs : List Value) (hs : a.eval s = .slice (some ⟨g, 0, none⟩) n cap) (hown : w.ownsRow base e 1 (.slice (some ⟨g, 0, none⟩) n cap) n xs)
 (A : Option Addr) (m c : Nat) (news : List Value) (hx : a.eval x = .slice A m c) (hl : news.length = m) (hnews : RCells w A news) (h1 : ∀ u ∈ news, u.oneCell' = true)
 (hm : n + m <= 1000000000) (hby2 : bytes <= 1000) (hbase : base <= w.heap.size) (N : Nat) (hN : n + m = N) (ys : List Value) (hys : xs ++ news = ys)
 (h : ∀ g2 c2 w', w'.ownsRow base e 1 (.slice (some ⟨g2, 0, none⟩) N c2) N ys -> w.grownBy w' (some g) -> Below base w w' -> (g2 = g \/ w.heap.size <= g2) -> K (a.put o.dst (.slice (some ⟨g2, 0, none⟩) N c2)) w') :
 if Region.wanted o (yielded ops a.tmps) = true then Oper.wp P o a w K Q else E := by
 have hw : Region.wanted o (yielded ops a.tmps) = true := by simp [Region.wanted, hgd]
 rw [if_pos hw]
 exact wp_append_row w s x t ho base e i z bytes ht hi hz hsize hby hzs g n cap xs hs hown A m c news hx hl hnews h1 hm hby2 hbase N hN ys hys h
theorem wpList_append_row {ops : Array Oper} {rest : List Oper} {o : Oper} {a : Act} {Q : Exit -> Act -> World -> Prop} (hgd : o.guard = none) (s x : Operand) (t : TypeId)
 (ho : o.op = .call { callee := .builtin .append, args := #[s, x], argTypes := #[t, t] })
 (base : Nat) (e : TypeId) (i : TypeInfo) (z : Value) (bytes : Nat) (ht : P.underlying t = some (.slice e)) (hi : P.info? e = some i) (hz : i.zero = some z)
 (hsize : i.size = 1) (hby : i.bytes = bytes) (hzs : z.cells.size = 1) (g n cap : Nat) (xs : List Value) (hs : a.eval s = .slice (some ⟨g, 0, none⟩) n cap) (hown : w.ownsRow base e 1 (.slice (some ⟨g, 0, none⟩) n cap) n xs)
 (A : Option Addr) (m c : Nat) (news : List Value) (hx : a.eval x = .slice A m c) (hl : news.length = m) (hnews : RCells w A news) (h1 : ∀ u ∈ news, u.oneCell' = true)
 (hm : n + m <= 1000000000) (hby2 : bytes <= 1000) (hbase : base <= w.heap.size) (N : Nat) (hN : n + m = N) (ys : List Value) (hys : xs ++ news = ys)
 (h : ∀ g2 c2 w', w'.ownsRow base e 1 (.slice (some ⟨g2, 0, none⟩) N c2) N ys -> w.grownBy w' (some g) -> Below base w w' -> (g2 = g \/ w.heap.size <= g2) -> wpList P ops Q rest (a.put o.dst (.slice (some ⟨g2, 0, none⟩) N c2)) w') : wpList P ops Q (o :: rest) a w :=
 wpList_plain hgd fun _ hK => wp_append_row w s x t ho base e i z bytes ht hi hz hsize hby hzs g n cap xs hs hown A m c news hx hl hnews h1 hm hby2 hbase N hN ys hys fun g2 c2 w' h2 h3 h4 h5 => hK _ _ (h g2 c2 w' h2 h3 h4 h5)
end
end Go.Proofs.YtpokompplapkhaaGreatDoor
namespace Go.Proofs.YtpokompplapkhaaGreatDoor
set_option maxHeartbeats 8000000
set_option maxRecDepth 100000
open Go.RowKit
set_option linter.unusedVariables false
set_option linter.unusedSimpArgs false
def TyPost (w : World) (o : Option Ty) (e : Ending) (w' : World) : Prop :=
 Below w.heap.size w w' /\ match o with
  | some t => ∃ p, e = .returned (.pointer p) /\ TyAt w' t p
  | none => e = .returned (.pointer none)
theorem TyPost.none_ {w w' : World} (h : Below w.heap.size w w') : TyPost w none (.returned (.pointer none)) w' := ⟨h, rfl⟩
theorem TyPost.some_ {w w' : World} {t : Ty} {p : Option Addr} (h : Below w.heap.size w w') (hp : TyAt w' t p) : TyPost w (some t) (.returned (.pointer p)) w' := ⟨h, p, rfl, hp⟩
theorem TyN_new (w : World) (sg : Int) (nm : List UInt8) (up : Int) (pa pb : Option Addr) : TyN (w.alloc (.cells #[.int .u8 sg, .string (St nm), .int .i64 up, .pointer pa, .pointer pb] 124)) (some ⟨w.heap.size, 0, none⟩) sg nm up pa pb := ⟨_, rfl, block_new w _⟩
theorem quiet_drew {P : Program} {f : FuncId} {args : Array Value} {w : World} {v : Value} (n : Nat)
 (h : Calls P f args (w.drewN n) fun e w' => e = .returned v /\ ∃ m, w' = (w.drewN n).drewN m) : Calls P f args (w.drewN n) fun e w' => e = .returned v /\ ∃ m, w' = w.drewN m :=
 h.mono fun _ _ ⟨he, m, hm⟩ => ⟨he, n + m, by rw [hm, World.drewN_drewN]⟩
theorem tyAtoms_any (t : Ty) : ∀ (w : World) (p : Option Addr), TyAt w t p -> t.atoms <= 1000000000 ->
 Calls Tryz.prog 143 #[.pointer p] w fun e w' => e = .returned (.int .i64 t.atoms) /\ ∃ m, w' = w.drewN m := by
 induction t with
 | sum a b iha ihb =>
  rintro w p ⟨pa, pb, ⟨g, rfl, hb⟩, ha, hb'⟩ hn
  have c0 : w.cell? ⟨g, 0, none⟩ = some (.int .u8 43) := block_cell hb 0
  have c2 : w.cell? ⟨g, 3, none⟩ = some (.pointer pa) := block_cell hb 3
  have c3 : w.cell? ⟨g, 4, none⟩ = some (.pointer pb) := block_cell hb 4
  simp only [Ty.atoms] at hn ⊢
  have h1 := Lib.hid fun n => quiet_drew n (iha (w.drewN n) pa (ha.up (up_drewN w n)) (by omega))
  have h2 := Lib.hid fun n => quiet_drew n (ihb (w.drewN n) pb (hb'.up (up_drewN w n)) (by omega))
  obtain ⟨ga, rfl⟩ := ha.some_
  obtain ⟨gb, rfl⟩ := hb'.some_
  clear hb ha hb' iha ihb
  generalize a.atoms = x at *
  generalize b.atoms = y at *
  go_enter Tryz.func143, Tryz.ntmps143
  go_wp2
  go_quiet ((go_at_call 143; first | (with_reducible exact h1.out _) | (with_reducible exact h2.out _)))
  go_wp2
  go_ret
  exact ⟨congrArg (fun b => Ending.returned (.int .i64 b)) (by simp), _, rfl⟩
 | prod a b iha ihb =>
  rintro w p ⟨pa, pb, ⟨g, rfl, hb⟩, ha, hb'⟩ hn
  have c0 : w.cell? ⟨g, 0, none⟩ = some (.int .u8 42) := block_cell hb 0
  have c2 : w.cell? ⟨g, 3, none⟩ = some (.pointer pa) := block_cell hb 3
  have c3 : w.cell? ⟨g, 4, none⟩ = some (.pointer pb) := block_cell hb 4
  simp only [Ty.atoms] at hn ⊢
  have h1 := Lib.hid fun n => quiet_drew n (iha (w.drewN n) pa (ha.up (up_drewN w n)) (by omega))
  have h2 := Lib.hid fun n => quiet_drew n (ihb (w.drewN n) pb (hb'.up (up_drewN w n)) (by omega))
  obtain ⟨ga, rfl⟩ := ha.some_
  obtain ⟨gb, rfl⟩ := hb'.some_
  clear hb ha hb' iha ihb
  generalize a.atoms = x at *
  generalize b.atoms = y at *
  go_enter Tryz.func143, Tryz.ntmps143
  go_wp2
  go_quiet ((go_at_call 143; first | (with_reducible exact h1.out _) | (with_reducible exact h2.out _)))
  go_wp2
  go_ret
  exact ⟨congrArg (fun b => Ending.returned (.int .i64 b)) (by simp), _, rfl⟩
 | loop a iha =>
  rintro w p ⟨pa, ⟨g, rfl, hb⟩, ha⟩ hn
  have c0 : w.cell? ⟨g, 0, none⟩ = some (.int .u8 114) := block_cell hb 0
  have c2 : w.cell? ⟨g, 3, none⟩ = some (.pointer pa) := block_cell hb 3
  simp only [Ty.atoms] at hn ⊢
  have h1 := iha w pa ha (by omega)
  obtain ⟨ga, rfl⟩ := ha.some_
  clear hb ha iha
  generalize a.atoms = x at *
  go_enter Tryz.func143, Tryz.ntmps143
  go_wp2_with (go_at_call 143; refine h1.mono ?_; rintro e w' ⟨rfl, m, rfl⟩)
  go_ret
  exact ⟨congrArg (fun b => Ending.returned (.int .i64 b)) (by simp), _, rfl⟩
 | _ =>
  rintro w p ⟨g, rfl, hb⟩ hn
  have c0 := block_cell hb 0
  clear hb
  go_enter Tryz.func143, Tryz.ntmps143
  go_wp2_with fail
  go_ret
  exact ⟨rfl, 0, rfl⟩
theorem isNamed_all (s L : ByteArray) (w : World) :
 Calls Tryz.prog 108 #[.string s, .string L] w fun e w' => e = .returned (.bool (namedB L.data.toList s.data.toList)) /\ Below w.heap.size w w' := by
 by_cases h : s.size <= 9223372036854775807
 · exact isNamed_any s L w h
 · have h3 : ¬ s.size <= 3 := by omega
   have h1 : 1 <= s.size := by omega
   have hb : namedB L.data.toList s.data.toList = false := by
    have hsz := size_list s
    cases hl : s.data.toList with
    | nil => rfl
    | cons c r =>
     rw [hl] at hsz
     simp at hsz
     have : ¬ r.length <= 2 := by omega
     simp [namedB, this]
   rw [hb]
   clear h hb
   go_enter Tryz.func108, Tryz.ntmps108
   go_wp2_with fail
   go_ret
   exact ⟨rfl, Below.refl _ _⟩
theorem isParameter_all (s : List UInt8) (w : World) :
 Calls Tryz.prog 52 #[.string (St s)] w fun e w' => e = .returned (.bool (paramB s)) /\ Below w.heap.size w w' := by
 have hc : Calls Tryz.prog 108 #[.string (St s), .string ⟨#[120, 121, 122]⟩] w fun e w' => e = .returned (.bool (paramB s)) /\ Below w.heap.size w w' := isNamed_all (St s) ⟨#[120, 121, 122]⟩ w
 generalize paramB s = b at *
 go_enter Tryz.func52, Tryz.ntmps52
 go_wp2_with (go_at_call 108; refine hc.mono ?_; rintro e w' ⟨rfl, hb⟩)
 go_ret
 exact ⟨rfl, hb⟩
theorem isLoopName_all (s : List UInt8) (w : World) :
 Calls Tryz.prog 174 #[.string (St s)] w fun e w' => e = .returned (.bool (loopB s)) /\ Below w.heap.size w w' := by
 have hc : Calls Tryz.prog 108 #[.string (St s), .string ⟨#[116]⟩] w fun e w' => e = .returned (.bool (loopB s)) /\ Below w.heap.size w w' := isNamed_all (St s) ⟨#[116]⟩ w
 generalize loopB s = b at *
 go_enter Tryz.func174, Tryz.ntmps174
 go_wp2_with (go_at_call 108; refine hc.mono ?_; rintro e w' ⟨rfl, hb⟩)
 go_ret
 exact ⟨rfl, hb⟩
def TO (t : Tr) : Prop := ∀ (env : List (List UInt8)) (p : Option Addr) (A : Option Addr) (c : Nat) (w : World), EAt w (fun _ => True) t p -> SCells w A env.reverse -> env.length + t.size <= 100000 ->
 Calls Tryz.prog 142 #[.pointer p, .slice A env.length c] w (TyPost w ((tyOf t).map fun n => n.db env))
theorem typeOf_digit (s : List UInt8) (hs : s = [48] \/ s = [49]) (ps : List Tr) : TO (.mk s ps) := by
 intro env p A c w hp hA hn
 obtain ⟨g, B, c', rfl, e0, _, _⟩ := hp.parts
 clear hp hA
 rcases hs with rfl | rfl
 · rw [tyOf_zero]
   go_enter Tryz.func142, Tryz.ntmps142
   go_wp2_with fail
   go_ret
   exact .some_ (up1 w _) (TyN_new w _ _ _ _ _)
 · rw [tyOf_one]
   go_enter Tryz.func142, Tryz.ntmps142
   go_wp2_with fail
   go_ret
   exact .some_ (up1 w _) (TyN_new w _ _ _ _ _)
theorem typeOf_param (s : List UInt8) (hs : paramB s = true) (ps : List Tr) : TO (.mk s ps) := by
 intro env p A c w hp hA hn
 obtain ⟨g, B, c', rfl, e0, _, _⟩ := hp.parts
 rw [tyOf_name (.inl hs)]
 have hv : (Option.map (fun n => NT.db n env) (some (NT.name s))) = some (.name s) := by simp [NT.db, hs]
 rw [hv]
 obtain ⟨h1, h2⟩ := name_ne (.inl hs)
 have k1 := St_ne h1
 have k2 := St_ne h2
 have HC : Hid (∀ w, Calls Tryz.prog 52 #[.string (St s)] w fun e w' => e = .returned (.bool true) /\ Below w.heap.size w w') := fun w => by
  have := isParameter_all s w
  rw [hs] at this
  exact this
 have HE : Hid (∀ w1, Below w.heap.size w w1 -> w1.cell? ⟨g, 0, none⟩ = some (.string (St s))) := fun w1 hb => cell_up hb e0
 clear hp hA hs hv h1 h2
 go_enter Tryz.func142, Tryz.ntmps142
 go_wp2_with (go_at_call 52; refine (HC.out _).mono ?_; rintro e w1 ⟨rfl, hb1⟩; have e1 := HE.out w1 hb1; have HB1 := Lib.hid hb1; clear hb1)
 go_ret
 exact .some_ (up_alloc HB1.out _) (TyN_new w1 _ _ _ _ _)
theorem w64 {n : Int} (h : -9223372036854775808 <= n) (h2 : n <= 9223372036854775807) : wrap64 n = n := by unfold wrap64; omega
theorem look_drop {s e : List UInt8} {env r : List (List UInt8)} {k : Nat} (hk : env.drop k = e :: r) (h : look s env = (look s (env.drop k)).map (· + k)) :
 (e = s -> look s env = some k) /\ (e ≠ s -> look s env = (look s (env.drop (k + 1))).map (· + (k + 1))) := by
 have hr : env.drop (k + 1) = r := by rw [<- List.drop_drop, hk]; rfl
 constructor
 · intro he
   rw [h, hk, look, if_pos he]
   simp
 · intro he
   rw [h, hk, look, if_neg he, hr]
   cases look s r with
   | none => rfl
   | some j => simp; omega
theorem typeOf_loopName (s : List UInt8) (hs : loopB s = true) (hq : paramB s = false) (ps : List Tr) : TO (.mk s ps) := by
 intro env p A c w hp hA hn
 obtain ⟨g, B, c', rfl, e0, _, _⟩ := hp.parts
 rw [tyOf_name (.inr hs)]
 obtain ⟨h1, h2⟩ := name_ne (.inr hs)
 have k1 := St_ne h1
 have k2 := St_ne h2
 have HC : Hid (∀ w, Calls Tryz.prog 52 #[.string (St s)] w fun e w' => e = .returned (.bool false) /\ Below w.heap.size w w') := fun w => by
  have := isParameter_all s w
  rw [hq] at this
  exact this
 have HL : Hid (∀ w, Calls Tryz.prog 174 #[.string (St s)] w fun e w' => e = .returned (.bool true) /\ Below w.heap.size w w') := fun w => by
  have := isLoopName_all s w
  rw [hs] at this
  exact this
 have HE : Hid (∀ w1, Below w.heap.size w w1 -> w1.cell? ⟨g, 0, none⟩ = some (.string (St s)) /\ SCells w1 A env.reverse) := fun w1 hb => ⟨cell_up hb e0, hA.up hb⟩
 have HV : Hid (∀ o, look s env = o -> Option.map (fun n => NT.db n env) (some (NT.name s)) = some (match o with | some k => Ty.bound k | none => Ty.name s)) := fun o ho => by
  simp only [Option.map_some, NT.db]
  rw [if_neg (by rw [hq]; simp), ho]
  cases o <;> rfl
 generalize Option.map (fun n => NT.db n env) (some (NT.name s)) = res at *
 have HN : Hid (env.length <= 100000) := by show env.length <= 100000; omega
 clear hp hA hs h1 h2 hq hn
 have HLN : Hid (∃ n, n = env.length) := ⟨_, rfl⟩
 obtain ⟨n, hnl⟩ := HLN.out
 rw [<- hnl]
 have HNL := Lib.hid hnl
 clear HLN hnl
 go_enter Tryz.func142, Tryz.ntmps142
 go_wp2_with (first
  | (go_at_call 52; refine (HC.out _).mono ?_; rintro e w1 ⟨rfl, hb1⟩; obtain ⟨e1, _⟩ := HE.out w1 hb1; have HB1 := Lib.hid hb1; clear hb1)
  | (go_at_call 174; refine (HL.out _).mono ?_; rintro e w2 ⟨rfl, hb2⟩; obtain ⟨e2, _⟩ := HE.out w2 (up_trans HB1.out hb2); have HB2 := Lib.hid (up_trans HB1.out hb2); clear hb2))
 go_loopg [5] n (fun m v5 wr => v5 = .int .i64 ((m : Int) - 1) /\ Hid (∃ k, m + k = n /\ look s env = (look s (env.drop k)).map (· + k)) /\ Hid (Below w.heap.size w wr))
 case atStart => exact ⟨by rw [w64 (by omega) (by have := HN.out; have := HNL.out; omega)], ⟨0, by omega, by simp⟩, HB2⟩
 case round =>
  obtain ⟨rfl, HK, HB⟩ := hrel
  obtain ⟨k, hk, hlook⟩ := HK.out
  obtain ⟨e3, hcells⟩ := HE.out wr HB.out
  have hlen := HNL.out
  clear e1 e2
  cases gk with
  | zero =>
   have hv := HV.out none (by rw [hlook, List.drop_of_length_le (by omega)]; rfl)
   subst hv
   clear hk hlook hcells HK hlen HV
   go_wp2
   go_ret
   exact .some_ (up_alloc HB.out _) (TyN_new wr _ _ _ _ _)
  | succ m =>
   have hi : (((m + 1 : Nat) : Int) - 1) = (m : Int) := by omega
   rw [hi]
   have hkl : k < env.length := by omega
   have hdrop : env.drop k = env[k] :: env.drop (k + 1) := List.drop_eq_getElem_cons hkl
   have hld := look_drop hdrop hlook
   have hge : env.reverse[m]? = some env[k] := by
    rw [List.getElem?_reverse (by omega), List.getElem?_eq_getElem (by omega)]
    congr 2
    omega
   rcases hcells with hcells | ⟨ga, oa, rfl, hcells⟩
   · rw [hcells] at hge; cases hge
   have d1 := hcells m _ hge
   have hmn : m < n := by omega
   have hmn2 : (m : Int) < (n : Int) := by omega
   generalize hek : env[k] = y at *
   by_cases hys : y = s
   · have hv := HV.out (some k) (hld.1 hys)
     have q1 : (y == s) = true := by rw [hys]; simp
     subst hv
     have hup : wrap64 (wrap64 ((n : Int) - 1) - (m : Int)) = (k : Int) := by
      have := HN.out
      rw [w64 (n := (n : Int) - 1) (by omega) (by omega), w64 (by omega) (by omega)]
      omega
     have HUP := Lib.hid hup
     clear hk hlook hcells HK hlen HV hi hkl hdrop hld hge hek hup hys
     go_wp2
     go_region
     go_wp2
     go_ret
     refine .some_ (up_alloc (up_drew HB.out) _) ?_
     show TyN _ _ _ _ _ _ _
     rw [<- HUP.out]
     exact ⟨_, rfl, block_new wr _⟩
   · have q1 : (y == s) = false := St_ne hys
     have HK2 : Hid (∃ k, m + k = n /\ look s env = (look s (env.drop k)).map (· + k)) := ⟨k + 1, by omega, hld.2 hys⟩
     clear hk hlook hcells HK hlen HV hi hkl hdrop hld hge hek hys
     go_wp2
     go_region
     go_wp2
     go_roundg m
     case measure => omega
     case rel => exact ⟨by rw [w64 (by omega) (by have := HN.out; have := HNL.out; omega)], HK2, up_drew HB.out⟩
end Go.Proofs.YtpokompplapkhaaGreatDoor
namespace Go.Proofs.YtpokompplapkhaaGreatDoor
set_option maxHeartbeats 8000000
set_option maxRecDepth 100000
open Go.RowKit
set_option linter.unusedVariables false
set_option linter.unusedSimpArgs false
structure NoAtom (s : List UInt8) : Prop where
 h1 : s ≠ [48]
 h2 : s ≠ [49]
 h3 : paramB s = false
 h4 : loopB s = false
def two_ (f : Ty -> Ty -> Ty) : Option Ty -> Option Ty -> Option Ty
 | some a, some b => some (f a b)
 | _, _ => none
theorem ty_ptr {o : Option Ty} {e : Ending} {w' : World} (h : match o with | some t => ∃ p, e = .returned (.pointer p) /\ TyAt w' t p | none => e = .returned (.pointer none)) : ∃ p, e = .returned (.pointer p) := by
 cases o with
 | none => exact ⟨_, h⟩
 | some t => obtain ⟨p, h, _⟩ := h; exact ⟨p, h⟩
theorem typeOf_sum (s : List UInt8) (hs : NoAtom s) (q : List Tr) (a b : Tr) (oa ob : Option Ty) (env : List (List UInt8)) (p : Option Addr) (A : Option Addr) (c : Nat) (w : World)
 (hp : EAt w (fun _ => True) (.mk s [.mk [43] q, a, b]) p)
 (iha : ∀ w1 p, Below w.heap.size w w1 -> EAt w1 (fun _ => True) a p -> Calls Tryz.prog 142 #[.pointer p, .slice A env.length c] w1 (TyPost w1 oa))
 (ihb : ∀ w1 p, Below w.heap.size w w1 -> EAt w1 (fun _ => True) b p -> Calls Tryz.prog 142 #[.pointer p, .slice A env.length c] w1 (TyPost w1 ob)) :
 Calls Tryz.prog 142 #[.pointer p, .slice A env.length c] w (TyPost w (two_ .sum oa ob)) := by
 have hP := Lib.hid hp
 obtain ⟨g, B, c', rfl, e0, e1, hr⟩ := hp.parts
 obtain ⟨bl, o, p0, rfl, f0, hh0, hr⟩ := hr.uncons
 obtain ⟨gh, _, _, rfl, fh, _, _⟩ := hh0.parts
 obtain ⟨pa, f1, ha, hr⟩ := hr.next
 obtain ⟨pb, f2, hb, _⟩ := hr.next
 have k1 := St_ne hs.h1
 have k2 := St_ne hs.h2
 have HQ : Hid (∀ w, Calls Tryz.prog 52 #[.string (St s)] w fun e w' => e = .returned (.bool false) /\ Below w.heap.size w w') := fun w => by
  have := isParameter_all s w
  rw [hs.h3] at this
  exact this
 have HL : Hid (∀ w, Calls Tryz.prog 174 #[.string (St s)] w fun e w' => e = .returned (.bool false) /\ Below w.heap.size w w') := fun w => by
  have := isLoopName_all s w
  rw [hs.h4] at this
  exact this
 have HIS : Hid (∀ w1, Below w.heap.size w w1 -> Calls Tryz.prog 166 #[.pointer (some ⟨g, 0, none⟩), .string ⟨#[43]⟩, .int .i64 3] w1 fun e w' => e = .returned (.bool true) /\ w1 = w') := fun w1 hb => isCall_is s _ _ ⟨#[43]⟩ 3 _ (hp.up hb) (by decide) (by decide) _ rfl
 have HE : Hid (∀ w1, Below w.heap.size w w1 -> w1.cell? ⟨g, 0, none⟩ = some (.string (St s)) /\ w1.cell? ⟨g, 1, none⟩ = some (.slice (some ⟨bl, o, none⟩) 3 c') /\ w1.cell? ⟨bl, o, none⟩ = some (.pointer (some ⟨gh, 0, none⟩)) /\ w1.cell? ⟨bl, o + 1, none⟩ = some (.pointer pa) /\ w1.cell? ⟨bl, o + 2, none⟩ = some (.pointer pb) /\ w1.cell? ⟨gh, 0, none⟩ = some (.string (St [43]))) := fun w1 hb => ⟨cell_up hb e0, cell_up hb e1, cell_up hb f0, cell_up hb f1, cell_up hb f2, cell_up hb fh⟩
 have HA : Hid (∀ w1, Below w.heap.size w w1 -> Calls Tryz.prog 142 #[.pointer pa, .slice A env.length c] w1 (TyPost w1 oa)) := fun w1 hb1 => iha w1 pa hb1 (ha.up hb1)
 have HB : Hid (∀ w1, Below w.heap.size w w1 -> Calls Tryz.prog 142 #[.pointer pb, .slice A env.length c] w1 (TyPost w1 ob)) := fun w1 hb1 => ihb w1 pb hb1 (hb.up hb1)
 clear hs hp hr ha hb iha ihb e1 f0 f1 f2 hP hh0 fh
 generalize env.length = n at *
 cases oa with
 | none =>
  go_enter Tryz.func142, Tryz.ntmps142
  go_wp2_with (first
   | (go_at_call 52; refine (HQ.out _).mono ?_; rintro e w1 ⟨rfl, hb1⟩; obtain ⟨e1, _⟩ := HE.out w1 hb1; have HB1 := Lib.hid hb1; clear hb1)
   | (go_at_call 174; refine (HL.out _).mono ?_; rintro e w2 ⟨rfl, hb2⟩; obtain ⟨_, e2, f0, f1, f2, _⟩ := HE.out w2 (up_trans HB1.out hb2); have HB2 := Lib.hid (up_trans HB1.out hb2); clear hb2)
   | (go_at_call 166; refine (HIS.out _ HB2.out).mono ?_; rintro e w' ⟨rfl, rfl⟩))
  go_region_held3 (fun w' => w'.cell? ⟨g, 1, none⟩ = some (.slice (some ⟨bl, o, none⟩) 3 c') /\ w'.cell? ⟨bl, o + 1, none⟩ = some (.pointer pa) /\ w'.cell? ⟨bl, o + 2, none⟩ = some (.pointer pb))
   (first | exact ⟨e4, f41, f42⟩ | exact ⟨e3, f31, f32⟩ | exact ⟨e2, f1, f2⟩ | go_keep)
   (first
    | (go_at_call 142; (with_reducible refine (HA.out _ (up_drew HB2.out)).mono ?_); rintro e w3 ⟨hb3, rfl⟩; obtain ⟨_, e3, _, f31, f32, _⟩ := HE.out w3 (up_trans (up_drew HB2.out) hb3); have HB3 := Lib.hid (up_trans (up_drew HB2.out) hb3); clear hb3)
    | (go_at_call 142; (with_reducible refine (HB.out _ HB3.out).mono ?_); rintro e w4 ⟨hb4, hr4⟩; obtain ⟨vb, rfl⟩ := ty_ptr hr4; clear hr4; obtain ⟨_, e4, _, f41, f42, _⟩ := HE.out w4 (up_trans HB3.out hb4); have HB4 := Lib.hid (up_trans HB3.out hb4); clear hb4))
  go_wp2
  go_ret
  exact .none_ HB4.out
 | some ta =>
  cases ob with
  | none =>
   go_enter Tryz.func142, Tryz.ntmps142
   go_wp2_with (first
    | (go_at_call 52; refine (HQ.out _).mono ?_; rintro e w1 ⟨rfl, hb1⟩; obtain ⟨e1, _⟩ := HE.out w1 hb1; have HB1 := Lib.hid hb1; clear hb1)
    | (go_at_call 174; refine (HL.out _).mono ?_; rintro e w2 ⟨rfl, hb2⟩; obtain ⟨_, e2, f0, f1, f2, _⟩ := HE.out w2 (up_trans HB1.out hb2); have HB2 := Lib.hid (up_trans HB1.out hb2); clear hb2)
    | (go_at_call 166; refine (HIS.out _ HB2.out).mono ?_; rintro e w' ⟨rfl, rfl⟩))
   go_region_held3 (fun w' => w'.cell? ⟨g, 1, none⟩ = some (.slice (some ⟨bl, o, none⟩) 3 c') /\ w'.cell? ⟨bl, o + 1, none⟩ = some (.pointer pa) /\ w'.cell? ⟨bl, o + 2, none⟩ = some (.pointer pb))
    (first | exact ⟨e4, f41, f42⟩ | exact ⟨e3, f31, f32⟩ | exact ⟨e2, f1, f2⟩ | go_keep)
    (first
     | (go_at_call 142; (with_reducible refine (HA.out _ (up_drew HB2.out)).mono ?_); rintro e w3 ⟨hb3, pa3, rfl, hpa⟩; have HPA := Lib.hid hpa; obtain ⟨ga3, rfl⟩ := TyAt.some_ hpa; clear hpa; obtain ⟨_, e3, _, f31, f32, _⟩ := HE.out w3 (up_trans (up_drew HB2.out) hb3); have HB3 := Lib.hid (up_trans (up_drew HB2.out) hb3); clear hb3)
     | (go_at_call 142; (with_reducible refine (HB.out _ HB3.out).mono ?_); rintro e w4 ⟨hb4, rfl⟩; obtain ⟨_, e4, _, f41, f42, _⟩ := HE.out w4 (up_trans HB3.out hb4); have HB4 := Lib.hid (up_trans HB3.out hb4); clear hb4))
   go_wp2
   go_ret
   exact .none_ HB4.out
  | some tb =>
   go_enter Tryz.func142, Tryz.ntmps142
   go_wp2_with (first
    | (go_at_call 52; refine (HQ.out _).mono ?_; rintro e w1 ⟨rfl, hb1⟩; obtain ⟨e1, _⟩ := HE.out w1 hb1; have HB1 := Lib.hid hb1; clear hb1)
    | (go_at_call 174; refine (HL.out _).mono ?_; rintro e w2 ⟨rfl, hb2⟩; obtain ⟨_, e2, f0, f1, f2, _⟩ := HE.out w2 (up_trans HB1.out hb2); have HB2 := Lib.hid (up_trans HB1.out hb2); clear hb2)
    | (go_at_call 166; refine (HIS.out _ HB2.out).mono ?_; rintro e w' ⟨rfl, rfl⟩))
   go_region_held3 (fun w' => w'.cell? ⟨g, 1, none⟩ = some (.slice (some ⟨bl, o, none⟩) 3 c') /\ w'.cell? ⟨bl, o + 1, none⟩ = some (.pointer pa) /\ w'.cell? ⟨bl, o + 2, none⟩ = some (.pointer pb))
    (first | exact ⟨e4, f41, f42⟩ | exact ⟨e3, f31, f32⟩ | exact ⟨e2, f1, f2⟩ | go_keep)
    (first
     | (go_at_call 142; (with_reducible refine (HA.out _ (up_drew HB2.out)).mono ?_); rintro e w3 ⟨hb3, pa3, rfl, hpa⟩; have HPA := Lib.hid hpa; obtain ⟨ga3, rfl⟩ := TyAt.some_ hpa; clear hpa; obtain ⟨_, e3, _, f31, f32, _⟩ := HE.out w3 (up_trans (up_drew HB2.out) hb3); have HB3 := Lib.hid (up_trans (up_drew HB2.out) hb3); clear hb3)
     | (go_at_call 142; (with_reducible refine (HB.out _ HB3.out).mono ?_); rintro e w4 ⟨hb4, pb4, rfl, hpb⟩; have HPB := Lib.hid hpb; have HPA4 := Lib.hid (HPA.out.up hb4); obtain ⟨gb4, rfl⟩ := TyAt.some_ hpb; clear hpb; obtain ⟨_, e4, f40, f41, f42, fh4⟩ := HE.out w4 (up_trans HB3.out hb4); have HB4 := Lib.hid (up_trans HB3.out hb4); clear hb4))
   go_wp2
   go_ret
   exact .some_ (up_alloc HB4.out _) ⟨_, _, TyN_new w4 _ _ _ _ _, HPA4.out.up (up1 _ _), HPB.out.up (up1 _ _)⟩
theorem typeOf_prod (s : List UInt8) (hs : NoAtom s) (q : List Tr) (a b : Tr) (oa ob : Option Ty) (env : List (List UInt8)) (p : Option Addr) (A : Option Addr) (c : Nat) (w : World)
 (hp : EAt w (fun _ => True) (.mk s [.mk [42] q, a, b]) p)
 (iha : ∀ w1 p, Below w.heap.size w w1 -> EAt w1 (fun _ => True) a p -> Calls Tryz.prog 142 #[.pointer p, .slice A env.length c] w1 (TyPost w1 oa))
 (ihb : ∀ w1 p, Below w.heap.size w w1 -> EAt w1 (fun _ => True) b p -> Calls Tryz.prog 142 #[.pointer p, .slice A env.length c] w1 (TyPost w1 ob)) :
 Calls Tryz.prog 142 #[.pointer p, .slice A env.length c] w (TyPost w (two_ .prod oa ob)) := by
 have hP := Lib.hid hp
 obtain ⟨g, B, c', rfl, e0, e1, hr⟩ := hp.parts
 obtain ⟨bl, o, p0, rfl, f0, hh0, hr⟩ := hr.uncons
 obtain ⟨gh, _, _, rfl, fh, _, _⟩ := hh0.parts
 obtain ⟨pa, f1, ha, hr⟩ := hr.next
 obtain ⟨pb, f2, hb, _⟩ := hr.next
 have k1 := St_ne hs.h1
 have k2 := St_ne hs.h2
 have HQ : Hid (∀ w, Calls Tryz.prog 52 #[.string (St s)] w fun e w' => e = .returned (.bool false) /\ Below w.heap.size w w') := fun w => by
  have := isParameter_all s w
  rw [hs.h3] at this
  exact this
 have HL : Hid (∀ w, Calls Tryz.prog 174 #[.string (St s)] w fun e w' => e = .returned (.bool false) /\ Below w.heap.size w w') := fun w => by
  have := isLoopName_all s w
  rw [hs.h4] at this
  exact this
 have HIS0 : Hid (∀ w1, Below w.heap.size w w1 -> Calls Tryz.prog 166 #[.pointer (some ⟨g, 0, none⟩), .string ⟨#[43]⟩, .int .i64 3] w1 fun e w' => e = .returned (.bool false) /\ w1 = w') := fun w1 hb => isCall_is s _ _ ⟨#[43]⟩ 3 _ (hp.up hb) (by decide) (by decide) _ rfl
 have HIS : Hid (∀ w1, Below w.heap.size w w1 -> Calls Tryz.prog 166 #[.pointer (some ⟨g, 0, none⟩), .string ⟨#[42]⟩, .int .i64 3] w1 fun e w' => e = .returned (.bool true) /\ w1 = w') := fun w1 hb => isCall_is s _ _ ⟨#[42]⟩ 3 _ (hp.up hb) (by decide) (by decide) _ rfl
 have HE : Hid (∀ w1, Below w.heap.size w w1 -> w1.cell? ⟨g, 0, none⟩ = some (.string (St s)) /\ w1.cell? ⟨g, 1, none⟩ = some (.slice (some ⟨bl, o, none⟩) 3 c') /\ w1.cell? ⟨bl, o, none⟩ = some (.pointer (some ⟨gh, 0, none⟩)) /\ w1.cell? ⟨bl, o + 1, none⟩ = some (.pointer pa) /\ w1.cell? ⟨bl, o + 2, none⟩ = some (.pointer pb) /\ w1.cell? ⟨gh, 0, none⟩ = some (.string (St [42]))) := fun w1 hb => ⟨cell_up hb e0, cell_up hb e1, cell_up hb f0, cell_up hb f1, cell_up hb f2, cell_up hb fh⟩
 have HA : Hid (∀ w1, Below w.heap.size w w1 -> Calls Tryz.prog 142 #[.pointer pa, .slice A env.length c] w1 (TyPost w1 oa)) := fun w1 hb1 => iha w1 pa hb1 (ha.up hb1)
 have HB : Hid (∀ w1, Below w.heap.size w w1 -> Calls Tryz.prog 142 #[.pointer pb, .slice A env.length c] w1 (TyPost w1 ob)) := fun w1 hb1 => ihb w1 pb hb1 (hb.up hb1)
 clear hs hp hr ha hb iha ihb e1 f0 f1 f2 hP hh0 fh
 generalize env.length = n at *
 cases oa with
 | none =>
  go_enter Tryz.func142, Tryz.ntmps142
  go_wp2_with (first
   | (go_at_call 52; refine (HQ.out _).mono ?_; rintro e w1 ⟨rfl, hb1⟩; obtain ⟨e1, _⟩ := HE.out w1 hb1; have HB1 := Lib.hid hb1; clear hb1)
   | (go_at_call 174; refine (HL.out _).mono ?_; rintro e w2 ⟨rfl, hb2⟩; obtain ⟨_, e2, f0, f1, f2, _⟩ := HE.out w2 (up_trans HB1.out hb2); have HB2 := Lib.hid (up_trans HB1.out hb2); clear hb2)
   | (go_at_call 166; first | ((with_reducible refine (HIS0.out _ HB2.out).mono ?_); rintro e w' ⟨rfl, rfl⟩) | ((with_reducible refine (HIS.out _ HB2.out).mono ?_); rintro e w' ⟨rfl, rfl⟩)))
  go_region_held3 (fun w' => w'.cell? ⟨g, 1, none⟩ = some (.slice (some ⟨bl, o, none⟩) 3 c') /\ w'.cell? ⟨bl, o + 1, none⟩ = some (.pointer pa) /\ w'.cell? ⟨bl, o + 2, none⟩ = some (.pointer pb))
   (first | exact ⟨e4, f41, f42⟩ | exact ⟨e3, f31, f32⟩ | exact ⟨e2, f1, f2⟩ | go_keep)
   (first
    | (go_at_call 142; (with_reducible refine (HA.out _ (up_drew HB2.out)).mono ?_); rintro e w3 ⟨hb3, rfl⟩; obtain ⟨_, e3, _, f31, f32, _⟩ := HE.out w3 (up_trans (up_drew HB2.out) hb3); have HB3 := Lib.hid (up_trans (up_drew HB2.out) hb3); clear hb3)
    | (go_at_call 142; (with_reducible refine (HB.out _ HB3.out).mono ?_); rintro e w4 ⟨hb4, hr4⟩; obtain ⟨vb, rfl⟩ := ty_ptr hr4; clear hr4; obtain ⟨_, e4, _, f41, f42, _⟩ := HE.out w4 (up_trans HB3.out hb4); have HB4 := Lib.hid (up_trans HB3.out hb4); clear hb4))
  go_wp2
  go_ret
  exact .none_ HB4.out
 | some ta =>
  cases ob with
  | none =>
   go_enter Tryz.func142, Tryz.ntmps142
   go_wp2_with (first
    | (go_at_call 52; refine (HQ.out _).mono ?_; rintro e w1 ⟨rfl, hb1⟩; obtain ⟨e1, _⟩ := HE.out w1 hb1; have HB1 := Lib.hid hb1; clear hb1)
    | (go_at_call 174; refine (HL.out _).mono ?_; rintro e w2 ⟨rfl, hb2⟩; obtain ⟨_, e2, f0, f1, f2, _⟩ := HE.out w2 (up_trans HB1.out hb2); have HB2 := Lib.hid (up_trans HB1.out hb2); clear hb2)
    | (go_at_call 166; first | ((with_reducible refine (HIS0.out _ HB2.out).mono ?_); rintro e w' ⟨rfl, rfl⟩) | ((with_reducible refine (HIS.out _ HB2.out).mono ?_); rintro e w' ⟨rfl, rfl⟩)))
   go_region_held3 (fun w' => w'.cell? ⟨g, 1, none⟩ = some (.slice (some ⟨bl, o, none⟩) 3 c') /\ w'.cell? ⟨bl, o + 1, none⟩ = some (.pointer pa) /\ w'.cell? ⟨bl, o + 2, none⟩ = some (.pointer pb))
    (first | exact ⟨e4, f41, f42⟩ | exact ⟨e3, f31, f32⟩ | exact ⟨e2, f1, f2⟩ | go_keep)
    (first
     | (go_at_call 142; (with_reducible refine (HA.out _ (up_drew HB2.out)).mono ?_); rintro e w3 ⟨hb3, pa3, rfl, hpa⟩; have HPA := Lib.hid hpa; obtain ⟨ga3, rfl⟩ := TyAt.some_ hpa; clear hpa; obtain ⟨_, e3, _, f31, f32, _⟩ := HE.out w3 (up_trans (up_drew HB2.out) hb3); have HB3 := Lib.hid (up_trans (up_drew HB2.out) hb3); clear hb3)
     | (go_at_call 142; (with_reducible refine (HB.out _ HB3.out).mono ?_); rintro e w4 ⟨hb4, rfl⟩; obtain ⟨_, e4, _, f41, f42, _⟩ := HE.out w4 (up_trans HB3.out hb4); have HB4 := Lib.hid (up_trans HB3.out hb4); clear hb4))
   go_wp2
   go_ret
   exact .none_ HB4.out
  | some tb =>
   go_enter Tryz.func142, Tryz.ntmps142
   go_wp2_with (first
    | (go_at_call 52; refine (HQ.out _).mono ?_; rintro e w1 ⟨rfl, hb1⟩; obtain ⟨e1, _⟩ := HE.out w1 hb1; have HB1 := Lib.hid hb1; clear hb1)
    | (go_at_call 174; refine (HL.out _).mono ?_; rintro e w2 ⟨rfl, hb2⟩; obtain ⟨_, e2, f0, f1, f2, _⟩ := HE.out w2 (up_trans HB1.out hb2); have HB2 := Lib.hid (up_trans HB1.out hb2); clear hb2)
    | (go_at_call 166; first | ((with_reducible refine (HIS0.out _ HB2.out).mono ?_); rintro e w' ⟨rfl, rfl⟩) | ((with_reducible refine (HIS.out _ HB2.out).mono ?_); rintro e w' ⟨rfl, rfl⟩)))
   go_region_held3 (fun w' => w'.cell? ⟨g, 1, none⟩ = some (.slice (some ⟨bl, o, none⟩) 3 c') /\ w'.cell? ⟨bl, o + 1, none⟩ = some (.pointer pa) /\ w'.cell? ⟨bl, o + 2, none⟩ = some (.pointer pb))
    (first | exact ⟨e4, f41, f42⟩ | exact ⟨e3, f31, f32⟩ | exact ⟨e2, f1, f2⟩ | go_keep)
    (first
     | (go_at_call 142; (with_reducible refine (HA.out _ (up_drew HB2.out)).mono ?_); rintro e w3 ⟨hb3, pa3, rfl, hpa⟩; have HPA := Lib.hid hpa; obtain ⟨ga3, rfl⟩ := TyAt.some_ hpa; clear hpa; obtain ⟨_, e3, _, f31, f32, _⟩ := HE.out w3 (up_trans (up_drew HB2.out) hb3); have HB3 := Lib.hid (up_trans (up_drew HB2.out) hb3); clear hb3)
     | (go_at_call 142; (with_reducible refine (HB.out _ HB3.out).mono ?_); rintro e w4 ⟨hb4, pb4, rfl, hpb⟩; have HPB := Lib.hid hpb; have HPA4 := Lib.hid (HPA.out.up hb4); obtain ⟨gb4, rfl⟩ := TyAt.some_ hpb; clear hpb; obtain ⟨_, e4, f40, f41, f42, fh4⟩ := HE.out w4 (up_trans HB3.out hb4); have HB4 := Lib.hid (up_trans HB3.out hb4); clear hb4))
   go_wp2
   go_ret
   exact .some_ (up_alloc HB4.out _) ⟨_, _, TyN_new w4 _ _ _ _ _, HPA4.out.up (up1 _ _), HPB.out.up (up1 _ _)⟩
end Go.Proofs.YtpokompplapkhaaGreatDoor
namespace Go.Proofs.YtpokompplapkhaaGreatDoor
set_option maxHeartbeats 8000000
set_option maxRecDepth 100000
open Go.RowKit
set_option linter.unusedVariables false
set_option linter.unusedSimpArgs false
theorem typeOf_else (s : List UInt8) (hs : NoAtom s) (ps : List Tr) (k1 : callB ps [43] 3 = false) (k2 : callB ps [42] 3 = false) (k3 : callB ps [114, 101, 99] 3 = false) (w : World) (p A : Option Addr) (n c : Nat) (hp : EAt w (fun _ => True) (.mk s ps) p) :
 Calls Tryz.prog 142 #[.pointer p, .slice A n c] w (TyPost w none) := by
 obtain ⟨g, B, c', rfl, e0, _, _⟩ := hp.parts
 have q1 := St_ne hs.h1
 have q2 := St_ne hs.h2
 have HQ : Hid (∀ w, Calls Tryz.prog 52 #[.string (St s)] w fun e w' => e = .returned (.bool false) /\ Below w.heap.size w w') := fun w => by
  have := isParameter_all s w
  rw [hs.h3] at this
  exact this
 have HL : Hid (∀ w, Calls Tryz.prog 174 #[.string (St s)] w fun e w' => e = .returned (.bool false) /\ Below w.heap.size w w') := fun w => by
  have := isLoopName_all s w
  rw [hs.h4] at this
  exact this
 have HI1 : Hid (∀ w1, Below w.heap.size w w1 -> Calls Tryz.prog 166 #[.pointer (some ⟨g, 0, none⟩), .string ⟨#[43]⟩, .int .i64 3] w1 fun e w' => e = .returned (.bool false) /\ w1 = w') := fun w1 hb => isCall_is s _ _ ⟨#[43]⟩ 3 _ (hp.up hb) (by decide) (by decide) _ k1
 have HI2 : Hid (∀ w1, Below w.heap.size w w1 -> Calls Tryz.prog 166 #[.pointer (some ⟨g, 0, none⟩), .string ⟨#[42]⟩, .int .i64 3] w1 fun e w' => e = .returned (.bool false) /\ w1 = w') := fun w1 hb => isCall_is s _ _ ⟨#[42]⟩ 3 _ (hp.up hb) (by decide) (by decide) _ k2
 have HI3 : Hid (∀ w1, Below w.heap.size w w1 -> Calls Tryz.prog 166 #[.pointer (some ⟨g, 0, none⟩), .string ⟨#[114, 101, 99]⟩, .int .i64 3] w1 fun e w' => e = .returned (.bool false) /\ w1 = w') := fun w1 hb => isCall_is s _ _ ⟨#[114, 101, 99]⟩ 3 _ (hp.up hb) (by decide) (by decide) _ k3
 have HE : Hid (∀ w1, Below w.heap.size w w1 -> w1.cell? ⟨g, 0, none⟩ = some (.string (St s))) := fun w1 hb => cell_up hb e0
 clear hs hp k1 k2 k3
 go_enter Tryz.func142, Tryz.ntmps142
 go_wp2_with (first
  | (go_at_call 52; refine (HQ.out _).mono ?_; rintro e w1 ⟨rfl, hb1⟩; have e1 := HE.out w1 hb1; have HB1 := Lib.hid hb1; clear hb1)
  | (go_at_call 174; refine (HL.out _).mono ?_; rintro e w2 ⟨rfl, hb2⟩; have e2 := HE.out w2 (up_trans HB1.out hb2); have HB2 := Lib.hid (up_trans HB1.out hb2); clear hb2)
  | (go_at_call 166; first | ((with_reducible refine (HI1.out _ HB2.out).mono ?_); rintro e w' ⟨rfl, rfl⟩) | ((with_reducible refine (HI2.out _ HB2.out).mono ?_); rintro e w' ⟨rfl, rfl⟩) | ((with_reducible refine (HI3.out _ HB2.out).mono ?_); rintro e w' ⟨rfl, rfl⟩)))
 go_ret
 exact .none_ HB2.out
theorem typeOf_notloop (s : List UInt8) (hs : NoAtom s) (q : List Tr) (a b : Tr) (hl : loopB a.atom = false) (w : World) (p A : Option Addr) (n c : Nat) (hp : EAt w (fun _ => True) (.mk s [.mk [114, 101, 99] q, a, b]) p) :
 Calls Tryz.prog 142 #[.pointer p, .slice A n c] w (TyPost w none) := by
 obtain ⟨x, q1⟩ := a
 have hl : loopB x = false := hl
 obtain ⟨g, B, c', rfl, e0, e1, hr⟩ := hp.parts
 obtain ⟨bl, o, p0, rfl, f0, _, hr⟩ := hr.uncons
 obtain ⟨pa, f1, ha, hr⟩ := hr.next
 obtain ⟨ga, _, _, rfl, fa, _, _⟩ := ha.parts
 have q1 := St_ne hs.h1
 have q2 := St_ne hs.h2
 have HQ : Hid (∀ w, Calls Tryz.prog 52 #[.string (St s)] w fun e w' => e = .returned (.bool false) /\ Below w.heap.size w w') := fun w => by
  have := isParameter_all s w
  rw [hs.h3] at this
  exact this
 have HL : Hid (∀ w, Calls Tryz.prog 174 #[.string (St s)] w fun e w' => e = .returned (.bool false) /\ Below w.heap.size w w') := fun w => by
  have := isLoopName_all s w
  rw [hs.h4] at this
  exact this
 have HL2 : Hid (∀ w, Calls Tryz.prog 174 #[.string (St x)] w fun e w' => e = .returned (.bool false) /\ Below w.heap.size w w') := fun w => by
  have := isLoopName_all x w
  rw [hl] at this
  exact this
 have HI1 : Hid (∀ w1, Below w.heap.size w w1 -> Calls Tryz.prog 166 #[.pointer (some ⟨g, 0, none⟩), .string ⟨#[43]⟩, .int .i64 3] w1 fun e w' => e = .returned (.bool false) /\ w1 = w') := fun w1 hb => isCall_is s _ _ ⟨#[43]⟩ 3 _ (hp.up hb) (by decide) (by decide) _ rfl
 have HI2 : Hid (∀ w1, Below w.heap.size w w1 -> Calls Tryz.prog 166 #[.pointer (some ⟨g, 0, none⟩), .string ⟨#[42]⟩, .int .i64 3] w1 fun e w' => e = .returned (.bool false) /\ w1 = w') := fun w1 hb => isCall_is s _ _ ⟨#[42]⟩ 3 _ (hp.up hb) (by decide) (by decide) _ rfl
 have HI3 : Hid (∀ w1, Below w.heap.size w w1 -> Calls Tryz.prog 166 #[.pointer (some ⟨g, 0, none⟩), .string ⟨#[114, 101, 99]⟩, .int .i64 3] w1 fun e w' => e = .returned (.bool true) /\ w1 = w') := fun w1 hb => isCall_is s _ _ ⟨#[114, 101, 99]⟩ 3 _ (hp.up hb) (by decide) (by decide) _ rfl
 have HE : Hid (∀ w1, Below w.heap.size w w1 -> w1.cell? ⟨g, 0, none⟩ = some (.string (St s)) /\ w1.cell? ⟨g, 1, none⟩ = some (.slice (some ⟨bl, o, none⟩) 3 c') /\ w1.cell? ⟨bl, o + 1, none⟩ = some (.pointer (some ⟨ga, 0, none⟩)) /\ w1.cell? ⟨ga, 0, none⟩ = some (.string (St x))) := fun w1 hb => ⟨cell_up hb e0, cell_up hb e1, cell_up hb f1, cell_up hb fa⟩
 clear hs hp hr ha hl e1 f0 f1 fa
 go_enter Tryz.func142, Tryz.ntmps142
 go_wp2_with (first
  | (go_at_call 52; refine (HQ.out _).mono ?_; rintro e w1 ⟨rfl, hb1⟩; obtain ⟨e1, _⟩ := HE.out w1 hb1; have HB1 := Lib.hid hb1; clear hb1)
  | (go_at_call 174; first
   | ((with_reducible refine (HL2.out _).mono ?_); rintro e w3 ⟨rfl, hb3⟩; have HB3 := Lib.hid (up_trans HB2.out hb3); clear hb3)
   | ((with_reducible refine (HL.out _).mono ?_); rintro e w2 ⟨rfl, hb2⟩; obtain ⟨e2, d1, d2, d3⟩ := HE.out w2 (up_trans HB1.out hb2); have HB2 := Lib.hid (up_trans HB1.out hb2); clear hb2))
  | (go_at_call 166; first | ((with_reducible refine (HI1.out _ HB2.out).mono ?_); rintro e w' ⟨rfl, rfl⟩) | ((with_reducible refine (HI2.out _ HB2.out).mono ?_); rintro e w' ⟨rfl, rfl⟩) | ((with_reducible refine (HI3.out _ HB2.out).mono ?_); rintro e w' ⟨rfl, rfl⟩)))
 go_ret
 exact .none_ HB3.out
theorem typeOf_rec (s : List UInt8) (hs : NoAtom s) (q : List Tr) (a b : Tr) (oa : Option Ty) (hl : loopB a.atom = true) (env : List (List UInt8)) (hn : env.length <= 100000) (p : Option Addr) (A : Option Addr) (c : Nat) (w : World)
 (hp : EAt w (fun _ => True) (.mk s [.mk [114, 101, 99] q, a, b]) p) (hA : SCells w A env.reverse)
 (ih : ∀ w1 p A c, Below w.heap.size w w1 -> EAt w1 (fun _ => True) b p -> SCells w1 A (a.atom :: env).reverse -> Calls Tryz.prog 142 #[.pointer p, .slice A (env.length + 1) c] w1 (TyPost w1 oa)) :
 Calls Tryz.prog 142 #[.pointer p, .slice A env.length c] w (TyPost w (oa.map .loop)) := by
 obtain ⟨x, q1⟩ := a
 have hl : loopB x = true := hl
 have ih : ∀ w1 p A c, Below w.heap.size w w1 -> EAt w1 (fun _ => True) b p -> SCells w1 A (x :: env).reverse -> Calls Tryz.prog 142 #[.pointer p, .slice A (env.length + 1) c] w1 (TyPost w1 oa) := ih
 obtain ⟨i0, hi0, hz0, hz1, hz2⟩ := info_parts Tryz.infoStr
 obtain ⟨g, B, c', rfl, e0, e1, hr⟩ := hp.parts
 obtain ⟨bl, o, p0, rfl, f0, _, hr⟩ := hr.uncons
 obtain ⟨pa, f1, ha, hr⟩ := hr.next
 obtain ⟨pb, f2, hb, _⟩ := hr.next
 obtain ⟨ga, _, _, rfl, fa, _, _⟩ := ha.parts
 have q1 := St_ne hs.h1
 have q2 := St_ne hs.h2
 have HQ : Hid (∀ w, Calls Tryz.prog 52 #[.string (St s)] w fun e w' => e = .returned (.bool false) /\ Below w.heap.size w w') := fun w => by
  have := isParameter_all s w
  rw [hs.h3] at this
  exact this
 have HL : Hid (∀ w, Calls Tryz.prog 174 #[.string (St s)] w fun e w' => e = .returned (.bool false) /\ Below w.heap.size w w') := fun w => by
  have := isLoopName_all s w
  rw [hs.h4] at this
  exact this
 have HL2 : Hid (∀ w, Calls Tryz.prog 174 #[.string (St x)] w fun e w' => e = .returned (.bool true) /\ Below w.heap.size w w') := fun w => by
  have := isLoopName_all x w
  rw [hl] at this
  exact this
 have HI1 : Hid (∀ w1, Below w.heap.size w w1 -> Calls Tryz.prog 166 #[.pointer (some ⟨g, 0, none⟩), .string ⟨#[43]⟩, .int .i64 3] w1 fun e w' => e = .returned (.bool false) /\ w1 = w') := fun w1 hb => isCall_is s _ _ ⟨#[43]⟩ 3 _ (hp.up hb) (by decide) (by decide) _ rfl
 have HI2 : Hid (∀ w1, Below w.heap.size w w1 -> Calls Tryz.prog 166 #[.pointer (some ⟨g, 0, none⟩), .string ⟨#[42]⟩, .int .i64 3] w1 fun e w' => e = .returned (.bool false) /\ w1 = w') := fun w1 hb => isCall_is s _ _ ⟨#[42]⟩ 3 _ (hp.up hb) (by decide) (by decide) _ rfl
 have HI3 : Hid (∀ w1, Below w.heap.size w w1 -> Calls Tryz.prog 166 #[.pointer (some ⟨g, 0, none⟩), .string ⟨#[114, 101, 99]⟩, .int .i64 3] w1 fun e w' => e = .returned (.bool true) /\ w1 = w') := fun w1 hb => isCall_is s _ _ ⟨#[114, 101, 99]⟩ 3 _ (hp.up hb) (by decide) (by decide) _ rfl
 have HE : Hid (∀ w1, Below w.heap.size w w1 -> w1.cell? ⟨g, 0, none⟩ = some (.string (St s)) /\ w1.cell? ⟨g, 1, none⟩ = some (.slice (some ⟨bl, o, none⟩) 3 c') /\ w1.cell? ⟨bl, o + 1, none⟩ = some (.pointer (some ⟨ga, 0, none⟩)) /\ w1.cell? ⟨bl, o + 2, none⟩ = some (.pointer pb) /\ w1.cell? ⟨ga, 0, none⟩ = some (.string (St x))) := fun w1 hb => ⟨cell_up hb e0, cell_up hb e1, cell_up hb f1, cell_up hb f2, cell_up hb fa⟩
 have HR : Hid (∀ w1, Below w.heap.size w w1 -> RCells w1 A (strs env.reverse)) := fun w1 hb => (hA.up hb).row
 have HC : Hid (∀ w1 g' c, Below w.heap.size w w1 -> w1.ownsRow w.heap.size 9 1 (.slice (some ⟨g', 0, none⟩) (env.length + 1) c) (env.length + 1) (strs (x :: env).reverse) -> Calls Tryz.prog 142 #[.pointer pb, .slice (some ⟨g', 0, none⟩) (env.length + 1) c] w1 (TyPost w1 oa)) := fun w1 g' c hb' ho => by
  have hlen : (x :: env).reverse.length = env.length + 1 := by simp
  have ho' : SOwn w1 w.heap.size (x :: env).reverse g' c := by unfold SOwn; rw [hlen]; exact ho
  exact ih w1 pb _ c hb' (hb.up hb') ho'.reads
 have HLEN : Hid ((strs env.reverse).length = env.length) := by show _ = _; simp [strs]
 have HREV : Hid (strs env.reverse ++ [.string (St x)] = strs (x :: env).reverse) := by
  show _ = _
  simp [strs]
 have HONE : Hid (∀ u ∈ strs env.reverse, u.oneCell' = true) := strs_one _ []
 have hlt0 : Hid (Below w.heap.size w w) := Below.refl _ _
 have HNE : Hid (env.length <= 100000) := hn
 clear hs hp hr ha hb hl e1 f0 f1 f2 fa ih hA hn
 generalize strs env.reverse = es at *
 generalize strs (x :: env).reverse = es2 at *
 generalize env.length = n at *
 cases oa with
 | none =>
  go_enter Tryz.func142, Tryz.ntmps142
  go_wp2_with (first
   | (go_at_call 52; refine (HQ.out _).mono ?_; rintro e w1 ⟨rfl, hb1⟩; obtain ⟨e1, _⟩ := HE.out w1 hb1; have HB1 := Lib.hid hb1; clear hb1)
   | (go_at_call 174; first
    | ((with_reducible refine (HL2.out _).mono ?_); rintro e w3 ⟨rfl, hb3⟩; obtain ⟨_, d1, d2, d4, d3⟩ := HE.out w3 (up_trans HB2.out hb3); have HB3 := Lib.hid (up_trans HB2.out hb3); clear hb3)
    | ((with_reducible refine (HL.out _).mono ?_); rintro e w2 ⟨rfl, hb2⟩; obtain ⟨e2, f1, f2, f4, f3⟩ := HE.out w2 (up_trans HB1.out hb2); have HB2 := Lib.hid (up_trans HB1.out hb2); clear hb2))
   | (go_at_call 166; first | ((with_reducible refine (HI1.out _ HB2.out).mono ?_); rintro e w' ⟨rfl, rfl⟩) | ((with_reducible refine (HI2.out _ HB2.out).mono ?_); rintro e w' ⟨rfl, rfl⟩) | ((with_reducible refine (HI3.out _ HB2.out).mono ?_); rintro e w' ⟨rfl, rfl⟩)))
  go_region_held3 (fun w' => w'.cell? ⟨g, 1, none⟩ = some (.slice (some ⟨bl, o, none⟩) 3 c') /\ w'.cell? ⟨bl, o + 1, none⟩ = some (.pointer (some ⟨ga, 0, none⟩)) /\ w'.cell? ⟨bl, o + 2, none⟩ = some (.pointer pb) /\ w'.cell? ⟨ga, 0, none⟩ = some (.string (St x)))
   (first | exact ⟨d61, d62, d64, d63⟩ | exact ⟨d51, d52, d54, d53⟩ | exact ⟨d41, d42, d44, d43⟩ | go_keep)
   (first
    | (go_at_call 142; (with_reducible refine (HC.out _ _ _ HB5.out HO5.out).mono ?_); rintro e w6 ⟨hb6, rfl⟩; obtain ⟨_, d61, d62, d64, d63⟩ := HE.out w6 (up_trans HB5.out hb6); have HB6 := Lib.hid (up_trans HB5.out hb6); clear hb6)
    | ((refine step_append_row _ rfl _ _ 38 rfl w.heap.size 9 i0 (.string ⟨#[]⟩) 16 Tryz.underlying38 hi0 hz0 hz1 hz2 rfl _ 0 0 [] rfl (own_heap (W := w3.alloc (.cells #[] 9)) rfl (own_nil w3 _ HB3.out.size 9)) A n c es rfl HLEN.out (HR.out _ (by repeat (first | exact HB3.out | refine up_drew ?_ | refine up_alloc ?_ _))) HONE.out (by have := HNE.out; omega) (by decide) (Below.size (by repeat (first | exact HB3.out | refine up_drew ?_ | refine up_alloc ?_ _))) n (by omega) es (by simp) ?_); intro g2 c2 w4 hown hgrow hbel hat; have HB4 : Hid (Below w.heap.size w w4) := Below.trans (by repeat (first | exact HB3.out | refine up_drew ?_ | refine up_alloc ?_ _)) hbel; have HO4 := Lib.hid hown; obtain ⟨_, d41, d42, d44, d43⟩ := HE.out w4 HB4.out; clear hown hgrow hbel hat)
    | ((refine step_append_row _ rfl _ _ 38 rfl w.heap.size 9 i0 (.string ⟨#[]⟩) 16 Tryz.underlying38 hi0 hz0 hz1 hz2 rfl _ n c2 es rfl (own_heap (W := w4.alloc (.cells #[.string (St x)] 9)) rfl (World.ownsRow.alloc HO4.out _)) (some ⟨_, 0, none⟩) 1 1 [.string (St x)] rfl rfl (row_one (block_cell (block_new w4 _) 0)) (by simp [Value.oneCell']) (by have := HNE.out; omega) (by decide) (Below.size (by repeat (first | exact HB4.out | refine up_drew ?_ | refine up_alloc ?_ _))) (n + 1) rfl es2 HREV.out ?_); intro g3 c3 w5 hown hgrow hbel hat; have HB5 : Hid (Below w.heap.size w w5) := Below.trans (by repeat (first | exact HB4.out | refine up_drew ?_ | refine up_alloc ?_ _)) hbel; have HO5 := Lib.hid hown; obtain ⟨_, d51, d52, d54, d53⟩ := HE.out w5 HB5.out; clear hown hgrow hbel hat)
    | ((refine step_append_row _ rfl _ _ 38 rfl w.heap.size 9 i0 (.string ⟨#[]⟩) 16 Tryz.underlying38 hi0 hz0 hz1 hz2 rfl _ n c2 es rfl (own_heap (W := w4) rfl HO4.out) (some ⟨_, 0, none⟩) 1 1 [.string (St x)] rfl rfl (row_one kc) (by simp [Value.oneCell']) (by have := HNE.out; omega) (by decide) (Below.size (by repeat (first | exact HB4.out | refine up_drew ?_ | refine up_alloc ?_ _))) (n + 1) rfl es2 HREV.out ?_); intro g3 c3 w5 hown hgrow hbel hat; have HB5 : Hid (Below w.heap.size w w5) := Below.trans (by repeat (first | exact HB4.out | refine up_drew ?_ | refine up_alloc ?_ _)) hbel; have HO5 := Lib.hid hown; obtain ⟨_, d51, d52, d54, d53⟩ := HE.out w5 HB5.out; clear hown hgrow hbel hat)
    | ((refine step_append_row _ rfl _ _ 38 rfl w.heap.size 9 i0 (.string ⟨#[]⟩) 16 Tryz.underlying38 hi0 hz0 hz1 hz2 rfl _ 0 0 [] rfl (own_heap (W := (w3.alloc (.cells #[] 9)).alloc (.cells #[.string (St x)] 9)) rfl (World.ownsRow.alloc (own_nil w3 _ HB3.out.size 9) _)) A n c es rfl HLEN.out (HR.out _ (by repeat (first | exact HB3.out | refine up_drew ?_ | refine up_alloc ?_ _))) HONE.out (by have := HNE.out; omega) (by decide) (Below.size (by repeat (first | exact HB3.out | refine up_drew ?_ | refine up_alloc ?_ _))) n (by omega) es (by simp) ?_); intro g2 c2 w4 hown hgrow hbel hat; have HB4 : Hid (Below w.heap.size w w4) := Below.trans (by repeat (first | exact HB3.out | refine up_drew ?_ | refine up_alloc ?_ _)) hbel; have HO4 := Lib.hid hown; obtain ⟨_, d41, d42, d44, d43⟩ := HE.out w4 HB4.out; have kc : w4.cell? ⟨w3.heap.size + 1, 0, none⟩ = some (.string (St x)) := block_cell (cs := #[.string (St x)]) (t := 9) (fr := (0, 0)) ((hgrow.block (w3.heap.size + 1) (by simp <;> omega) (by simp <;> omega)).trans (new2 w3 (.cells #[] 9) (.cells #[.string (St x)] 9))) 0; clear hown hgrow hbel hat)
    | ((refine step_append_row _ rfl _ _ 38 rfl w.heap.size 9 i0 (.string ⟨#[]⟩) 16 Tryz.underlying38 hi0 hz0 hz1 hz2 rfl _ 0 0 [] rfl (own_heap (W := (w3.alloc (.cells #[.string (St x)] 9)).alloc (.cells #[] 9)) rfl (own_nilH (w3.alloc (.cells #[.string (St x)] 9)) _ (Nat.le_trans HB3.out.size (by simp)) 9 (w3.heap.size + 1) (by simp))) A n c es rfl HLEN.out (HR.out _ (by repeat (first | exact HB3.out | refine up_drew ?_ | refine up_alloc ?_ _))) HONE.out (by have := HNE.out; omega) (by decide) (Below.size (by repeat (first | exact HB3.out | refine up_drew ?_ | refine up_alloc ?_ _))) n (by omega) es (by simp) ?_); intro g2 c2 w4 hown hgrow hbel hat; have HB4 : Hid (Below w.heap.size w w4) := Below.trans (by repeat (first | exact HB3.out | refine up_drew ?_ | refine up_alloc ?_ _)) hbel; have HO4 := Lib.hid hown; obtain ⟨_, d41, d42, d44, d43⟩ := HE.out w4 HB4.out; have kc : w4.cell? ⟨w3.heap.size, 0, none⟩ = some (.string (St x)) := block_cell (cs := #[.string (St x)]) (t := 9) (fr := (0, 0)) ((hgrow.block w3.heap.size (by simp <;> omega) (by simp <;> omega)).trans (old2 w3 (.cells #[.string (St x)] 9) (.cells #[] 9))) 0; clear hown hgrow hbel hat))
  all_goals go_wp2
  all_goals go_ret
  all_goals exact .none_ HB6.out
 | some ta =>
  go_enter Tryz.func142, Tryz.ntmps142
  go_wp2_with (first
   | (go_at_call 52; refine (HQ.out _).mono ?_; rintro e w1 ⟨rfl, hb1⟩; obtain ⟨e1, _⟩ := HE.out w1 hb1; have HB1 := Lib.hid hb1; clear hb1)
   | (go_at_call 174; first
    | ((with_reducible refine (HL2.out _).mono ?_); rintro e w3 ⟨rfl, hb3⟩; obtain ⟨_, d1, d2, d4, d3⟩ := HE.out w3 (up_trans HB2.out hb3); have HB3 := Lib.hid (up_trans HB2.out hb3); clear hb3)
    | ((with_reducible refine (HL.out _).mono ?_); rintro e w2 ⟨rfl, hb2⟩; obtain ⟨e2, f1, f2, f4, f3⟩ := HE.out w2 (up_trans HB1.out hb2); have HB2 := Lib.hid (up_trans HB1.out hb2); clear hb2))
   | (go_at_call 166; first | ((with_reducible refine (HI1.out _ HB2.out).mono ?_); rintro e w' ⟨rfl, rfl⟩) | ((with_reducible refine (HI2.out _ HB2.out).mono ?_); rintro e w' ⟨rfl, rfl⟩) | ((with_reducible refine (HI3.out _ HB2.out).mono ?_); rintro e w' ⟨rfl, rfl⟩)))
  go_region_held3 (fun w' => w'.cell? ⟨g, 1, none⟩ = some (.slice (some ⟨bl, o, none⟩) 3 c') /\ w'.cell? ⟨bl, o + 1, none⟩ = some (.pointer (some ⟨ga, 0, none⟩)) /\ w'.cell? ⟨bl, o + 2, none⟩ = some (.pointer pb) /\ w'.cell? ⟨ga, 0, none⟩ = some (.string (St x)))
   (first | exact ⟨d61, d62, d64, d63⟩ | exact ⟨d51, d52, d54, d53⟩ | exact ⟨d41, d42, d44, d43⟩ | go_keep)
   (first
    | (go_at_call 142; (with_reducible refine (HC.out _ _ _ HB5.out HO5.out).mono ?_); rintro e w6 ⟨hb6, pa6, rfl, hpa⟩; have HPA := Lib.hid hpa; obtain ⟨ga6, rfl⟩ := TyAt.some_ hpa; clear hpa; obtain ⟨_, d61, d62, d64, d63⟩ := HE.out w6 (up_trans HB5.out hb6); have HB6 := Lib.hid (up_trans HB5.out hb6); clear hb6)
    | ((refine step_append_row _ rfl _ _ 38 rfl w.heap.size 9 i0 (.string ⟨#[]⟩) 16 Tryz.underlying38 hi0 hz0 hz1 hz2 rfl _ 0 0 [] rfl (own_heap (W := w3.alloc (.cells #[] 9)) rfl (own_nil w3 _ HB3.out.size 9)) A n c es rfl HLEN.out (HR.out _ (by repeat (first | exact HB3.out | refine up_drew ?_ | refine up_alloc ?_ _))) HONE.out (by have := HNE.out; omega) (by decide) (Below.size (by repeat (first | exact HB3.out | refine up_drew ?_ | refine up_alloc ?_ _))) n (by omega) es (by simp) ?_); intro g2 c2 w4 hown hgrow hbel hat; have HB4 : Hid (Below w.heap.size w w4) := Below.trans (by repeat (first | exact HB3.out | refine up_drew ?_ | refine up_alloc ?_ _)) hbel; have HO4 := Lib.hid hown; obtain ⟨_, d41, d42, d44, d43⟩ := HE.out w4 HB4.out; clear hown hgrow hbel hat)
    | ((refine step_append_row _ rfl _ _ 38 rfl w.heap.size 9 i0 (.string ⟨#[]⟩) 16 Tryz.underlying38 hi0 hz0 hz1 hz2 rfl _ n c2 es rfl (own_heap (W := w4.alloc (.cells #[.string (St x)] 9)) rfl (World.ownsRow.alloc HO4.out _)) (some ⟨_, 0, none⟩) 1 1 [.string (St x)] rfl rfl (row_one (block_cell (block_new w4 _) 0)) (by simp [Value.oneCell']) (by have := HNE.out; omega) (by decide) (Below.size (by repeat (first | exact HB4.out | refine up_drew ?_ | refine up_alloc ?_ _))) (n + 1) rfl es2 HREV.out ?_); intro g3 c3 w5 hown hgrow hbel hat; have HB5 : Hid (Below w.heap.size w w5) := Below.trans (by repeat (first | exact HB4.out | refine up_drew ?_ | refine up_alloc ?_ _)) hbel; have HO5 := Lib.hid hown; obtain ⟨_, d51, d52, d54, d53⟩ := HE.out w5 HB5.out; clear hown hgrow hbel hat)
    | ((refine step_append_row _ rfl _ _ 38 rfl w.heap.size 9 i0 (.string ⟨#[]⟩) 16 Tryz.underlying38 hi0 hz0 hz1 hz2 rfl _ n c2 es rfl (own_heap (W := w4) rfl HO4.out) (some ⟨_, 0, none⟩) 1 1 [.string (St x)] rfl rfl (row_one kc) (by simp [Value.oneCell']) (by have := HNE.out; omega) (by decide) (Below.size (by repeat (first | exact HB4.out | refine up_drew ?_ | refine up_alloc ?_ _))) (n + 1) rfl es2 HREV.out ?_); intro g3 c3 w5 hown hgrow hbel hat; have HB5 : Hid (Below w.heap.size w w5) := Below.trans (by repeat (first | exact HB4.out | refine up_drew ?_ | refine up_alloc ?_ _)) hbel; have HO5 := Lib.hid hown; obtain ⟨_, d51, d52, d54, d53⟩ := HE.out w5 HB5.out; clear hown hgrow hbel hat)
    | ((refine step_append_row _ rfl _ _ 38 rfl w.heap.size 9 i0 (.string ⟨#[]⟩) 16 Tryz.underlying38 hi0 hz0 hz1 hz2 rfl _ 0 0 [] rfl (own_heap (W := (w3.alloc (.cells #[] 9)).alloc (.cells #[.string (St x)] 9)) rfl (World.ownsRow.alloc (own_nil w3 _ HB3.out.size 9) _)) A n c es rfl HLEN.out (HR.out _ (by repeat (first | exact HB3.out | refine up_drew ?_ | refine up_alloc ?_ _))) HONE.out (by have := HNE.out; omega) (by decide) (Below.size (by repeat (first | exact HB3.out | refine up_drew ?_ | refine up_alloc ?_ _))) n (by omega) es (by simp) ?_); intro g2 c2 w4 hown hgrow hbel hat; have HB4 : Hid (Below w.heap.size w w4) := Below.trans (by repeat (first | exact HB3.out | refine up_drew ?_ | refine up_alloc ?_ _)) hbel; have HO4 := Lib.hid hown; obtain ⟨_, d41, d42, d44, d43⟩ := HE.out w4 HB4.out; have kc : w4.cell? ⟨w3.heap.size + 1, 0, none⟩ = some (.string (St x)) := block_cell (cs := #[.string (St x)]) (t := 9) (fr := (0, 0)) ((hgrow.block (w3.heap.size + 1) (by simp <;> omega) (by simp <;> omega)).trans (new2 w3 (.cells #[] 9) (.cells #[.string (St x)] 9))) 0; clear hown hgrow hbel hat)
    | ((refine step_append_row _ rfl _ _ 38 rfl w.heap.size 9 i0 (.string ⟨#[]⟩) 16 Tryz.underlying38 hi0 hz0 hz1 hz2 rfl _ 0 0 [] rfl (own_heap (W := (w3.alloc (.cells #[.string (St x)] 9)).alloc (.cells #[] 9)) rfl (own_nilH (w3.alloc (.cells #[.string (St x)] 9)) _ (Nat.le_trans HB3.out.size (by simp)) 9 (w3.heap.size + 1) (by simp))) A n c es rfl HLEN.out (HR.out _ (by repeat (first | exact HB3.out | refine up_drew ?_ | refine up_alloc ?_ _))) HONE.out (by have := HNE.out; omega) (by decide) (Below.size (by repeat (first | exact HB3.out | refine up_drew ?_ | refine up_alloc ?_ _))) n (by omega) es (by simp) ?_); intro g2 c2 w4 hown hgrow hbel hat; have HB4 : Hid (Below w.heap.size w w4) := Below.trans (by repeat (first | exact HB3.out | refine up_drew ?_ | refine up_alloc ?_ _)) hbel; have HO4 := Lib.hid hown; obtain ⟨_, d41, d42, d44, d43⟩ := HE.out w4 HB4.out; have kc : w4.cell? ⟨w3.heap.size, 0, none⟩ = some (.string (St x)) := block_cell (cs := #[.string (St x)]) (t := 9) (fr := (0, 0)) ((hgrow.block w3.heap.size (by simp <;> omega) (by simp <;> omega)).trans (old2 w3 (.cells #[.string (St x)] 9) (.cells #[] 9))) 0; clear hown hgrow hbel hat))
  all_goals go_wp2
  all_goals go_ret
  all_goals exact .some_ (up_alloc HB6.out _) ⟨_, TyN_new w6 _ _ _ _ _, HPA.out.up (up1 _ _)⟩
theorem typeOf_any : ∀ (t : Tr), TO t
 | .mk s ps => by
  by_cases h1 : s = [48]
  · exact typeOf_digit s (.inl h1) ps
  by_cases h2 : s = [49]
  · exact typeOf_digit s (.inr h2) ps
  cases h3 : paramB s with
  | true => exact typeOf_param s h3 ps
  | false =>
   cases h4 : loopB s with
   | true => exact typeOf_loopName s h4 h3 ps
   | false =>
    have hs : NoAtom s := ⟨h1, h2, h3, h4⟩
    match ps with
    | [] => exact fun env p A c w hp hA hn => by rw [tyOf_other h1 h2 h3 h4 _ (by simp)]; exact typeOf_else s hs _ rfl rfl rfl w p A _ c hp
    | [a] => exact fun env p A c w hp hA hn => by rw [tyOf_other h1 h2 h3 h4 _ (by simp)]; exact typeOf_else s hs _ rfl rfl rfl w p A _ c hp
    | [a, b] => exact fun env p A c w hp hA hn => by rw [tyOf_other h1 h2 h3 h4 _ (by simp)]; exact typeOf_else s hs _ rfl rfl rfl w p A _ c hp
    | a :: b :: c :: d :: r =>
     exact fun env p A c w hp hA hn => by
      rw [tyOf_other h1 h2 h3 h4 _ (by simp)]
      exact typeOf_else s hs _ (by simp [callB]) (by simp [callB]) (by simp [callB]) w p A _ _ hp
    | [.mk h q, a, b] =>
     intro env p A c w hp hA hn
     have hsz : env.length + (a.size + b.size + 2) <= 100000 := by simp only [Tr.size, Tr.sizes] at hn; omega
     rw [tyOf_three h1 h2 h3 h4]
     unfold tyThree
     by_cases k1 : h = [43]
     · subst k1
       rw [if_pos rfl]
       have ih1 := typeOf_any a
       have ih2 := typeOf_any b
       have := typeOf_sum s hs q a b ((tyOf a).map fun n => n.db env) ((tyOf b).map fun n => n.db env) env p A c w hp
        (fun w1 p hb hp => ih1 env p A c w1 hp (hA.up hb) (by omega)) (fun w1 p hb hp => ih2 env p A c w1 hp (hA.up hb) (by omega))
       rw [show (tyTwo .sum (tyOf a) (tyOf b)).map (fun n => n.db env) = two_ .sum ((tyOf a).map fun n => n.db env) ((tyOf b).map fun n => n.db env) from by
        cases tyOf a <;> cases tyOf b <;> rfl]
       exact this
     by_cases k2 : h = [42]
     · subst k2
       rw [if_neg (by decide), if_pos rfl]
       have ih1 := typeOf_any a
       have ih2 := typeOf_any b
       have := typeOf_prod s hs q a b ((tyOf a).map fun n => n.db env) ((tyOf b).map fun n => n.db env) env p A c w hp
        (fun w1 p hb hp => ih1 env p A c w1 hp (hA.up hb) (by omega)) (fun w1 p hb hp => ih2 env p A c w1 hp (hA.up hb) (by omega))
       rw [show (tyTwo .prod (tyOf a) (tyOf b)).map (fun n => n.db env) = two_ .prod ((tyOf a).map fun n => n.db env) ((tyOf b).map fun n => n.db env) from by
        cases tyOf a <;> cases tyOf b <;> rfl]
       exact this
     by_cases k3 : h = [114, 101, 99]
     · subst k3
       rw [if_neg (by decide), if_neg (by decide), if_pos rfl]
       cases hl : loopB a.atom with
       | false =>
        rw [if_neg (by simp)]
        exact typeOf_notloop s hs q a b hl w p A _ c hp
       | true =>
        rw [if_pos rfl]
        have ih2 := typeOf_any b
        have := typeOf_rec s hs q a b ((tyOf b).map fun n => n.db (a.atom :: env)) hl env (by omega) p A c w hp hA
         (fun w1 p A c hb hp hA => ih2 (a.atom :: env) p A c w1 hp hA (by simp only [List.length_cons]; omega))
        rw [show ((tyOf b).map (NT.loop a.atom)).map (fun n => n.db env) = ((tyOf b).map fun n => n.db (a.atom :: env)).map .loop from by
         cases tyOf b <;> rfl]
        exact this
     · rw [if_neg k1, if_neg k2, if_neg k3]
       exact typeOf_else s hs _ (by simp only [callB, headAtom, St_ne k1, Bool.and_false]) (by simp only [callB, headAtom, St_ne k2, Bool.and_false]) (by simp only [callB, headAtom, St_ne k3, Bool.and_false]) w p A _ c hp
end Go.Proofs.YtpokompplapkhaaGreatDoor
namespace Go.Proofs.YtpokompplapkhaaGreatDoor
set_option maxHeartbeats 8000000
set_option maxRecDepth 100000
open Go.RowKit
set_option linter.unusedVariables false
set_option linter.unusedSimpArgs false
theorem readType_any (s : ByteArray) (w : World) (hs : s.size <= 9223372036854775807) : Calls Tryz.prog 82 #[.string s] w (TyPost w ((rdTy s.data.toList).map fun n => n.db [])) := by
 have ht := readText_any s w hs
 clear hs
 unfold rdTy
 cases hr : rdText s.data.toList with
 | none =>
  rw [hr] at ht
  replace ht : Calls Tryz.prog 128 #[.string s] w (fun e w' => Below w.heap.size w w' /\ e = .returned (.pointer none)) := ht
  go_enter Tryz.func82, Tryz.ntmps82
  go_wp2_with (go_at_call 128; refine ht.mono ?_; rintro e w1 ⟨hb1, rfl⟩)
  go_ret
  exact .none_ hb1
 | some t =>
  have hsz := rdText_size hr
  have hok := rdText_ok hr
  rw [hr] at ht
  replace ht : Calls Tryz.prog 128 #[.string s] w (fun e w' => Below w.heap.size w w' /\ ∃ p, e = .returned (.pointer p) /\ EAt w' (fun _ => True) t p) := ht
  have hv : ∀ (w : World) (p : Option Addr), EAt w (fun _ => True) t p -> Calls Tryz.prog 142 #[.pointer p, .slice none 0 0] w (TyPost w ((tyOf t).map fun n => n.db [])) := fun w p hp => typeOf_any t [] p none 0 w hp (.inl rfl) (by simp; omega)
  have hna := fun n h => tyOf_atoms t n h hok
  clear hr hok
  simp only
  cases hval : tyOf t with
  | none =>
   rw [hval] at hv
   have HV : Hid (∀ (w : World) (p : Option Addr), EAt w (fun _ => True) t p -> Calls Tryz.prog 142 #[.pointer p, .slice none 0 0] w (fun e w' => Below w.heap.size w w' /\ e = .returned (.pointer none))) := hv
   clear hna hsz hv hval
   go_enter Tryz.func82, Tryz.ntmps82
   go_wp2_with (first
    | (go_at_call 128; refine ht.mono ?_; rintro e w1 ⟨hb1, p, rfl, hp⟩; obtain ⟨g, rfl⟩ := hp.some_; have HP := Lib.hid hp; have HB1 := Lib.hid hb1; clear hp hb1)
    | (go_at_call 142; refine (HV.out _ _ HP.out).mono ?_; rintro e w2 ⟨hb2, rfl⟩))
   go_ret
   exact .none_ (up_trans HB1.out hb2)
  | some n =>
   have hn1 := hna n hval
   rw [hval] at hv
   have HV : Hid (∀ (w : World) (p : Option Addr), EAt w (fun _ => True) t p -> Calls Tryz.prog 142 #[.pointer p, .slice none 0 0] w (fun e w' => Below w.heap.size w w' /\ ∃ p, e = .returned (.pointer p) /\ TyAt w' (n.db []) p)) := hv
   have HN : Hid (∀ (w : World) (p : Option Addr), TyAt w (n.db []) p -> Calls Tryz.prog 143 #[.pointer p] w fun e w' => e = .returned (.int .i64 n.atoms) /\ ∃ m, w' = w.drewN m) := fun w p hp => by
    have := tyAtoms_any (n.db []) w p hp (by rw [NT.db_atoms]; omega)
    rw [NT.db_atoms] at this
    exact this
   clear hna hsz hv hval hn1
   simp only
   by_cases h400 : 400 < n.atoms
   · rw [if_pos h400]
     generalize n.atoms = k at *
     go_enter Tryz.func82, Tryz.ntmps82
     go_wp2_with (first
      | (go_at_call 128; refine ht.mono ?_; rintro e w1 ⟨hb1, p, rfl, hp⟩; obtain ⟨g, rfl⟩ := hp.some_; have HP := Lib.hid hp; have HB1 := Lib.hid hb1; clear hp hb1)
      | (go_at_call 142; refine (HV.out _ _ HP.out).mono ?_; rintro e w2 ⟨hb2, p2, rfl, hp2⟩; obtain ⟨g2, rfl⟩ := hp2.some_; have HP2 := Lib.hid hp2; have HB2 := Lib.hid (up_trans HB1.out hb2); clear hp2 hb2)
      | (go_at_call 143; refine (HN.out _ _ HP2.out).mono ?_; rintro e w' ⟨rfl, m, rfl⟩))
     go_ret
     exact .none_ (up_trans HB2.out (up_drewN _ _))
   · rw [if_neg h400]
     generalize n.atoms = k at *
     go_enter Tryz.func82, Tryz.ntmps82
     go_wp2_with (first
      | (go_at_call 128; refine ht.mono ?_; rintro e w1 ⟨hb1, p, rfl, hp⟩; obtain ⟨g, rfl⟩ := hp.some_; have HP := Lib.hid hp; have HB1 := Lib.hid hb1; clear hp hb1)
      | (go_at_call 142; refine (HV.out _ _ HP.out).mono ?_; rintro e w2 ⟨hb2, p2, rfl, hp2⟩; obtain ⟨g2, rfl⟩ := hp2.some_; have HP2 := Lib.hid hp2; have HB2 := Lib.hid (up_trans HB1.out hb2); clear hp2 hb2)
      | (go_at_call 143; refine (HN.out _ _ HP2.out).mono ?_; rintro e w' ⟨rfl, m, rfl⟩))
     go_ret
     exact .some_ (up_trans HB2.out (up_drewN _ _)) (HP2.out.up (up_drewN _ _))
def RTPost (w : World) (o : Option NT) (e : Ending) (w' : World) : Prop :=
 Below w.heap.size w w' /\ match o with
  | some t => ∃ g, e = .returned (.pointer (some ⟨g, 0, none⟩)) /\ TyAt w' (t.db []) (some ⟨g, 0, none⟩)
  | none => e = .returned (.pointer none)
theorem readType_rt (s : ByteArray) (w : World) (hs : s.size <= 9223372036854775807) : Calls Tryz.prog 82 #[.string s] w (RTPost w (rdTy s.data.toList)) := by
 refine (readType_any s w hs).mono fun e w' h => ?_
 generalize rdTy s.data.toList = o at *
 cases o with
 | none => exact h
 | some n =>
  obtain ⟨h1, p, h2, h3⟩ := h
  have h3 : TyAt w' (n.db []) p := h3
  obtain ⟨g, rfl⟩ := h3.some_
  exact ⟨h1, g, h2, h3⟩
end Go.Proofs.YtpokompplapkhaaGreatDoor

