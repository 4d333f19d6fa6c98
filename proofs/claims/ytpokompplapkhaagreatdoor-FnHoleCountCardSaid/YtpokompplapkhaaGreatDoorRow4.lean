/- Appends of a row of structs, maybe an empty one, onto a row that the call owns. -/
import Derived.Test.YtpokompplapkhaaGreatDoorME
namespace Go.Proofs.YtpokompplapkhaaGreatDoor
open Go.RowKit
set_option linter.unusedVariables false
set_option linter.unusedSimpArgs false
theorem own_nils (w : World) (B sz : Nat) (hB : B <= w.heap.size) (hs : 0 < sz) (e : TypeId) : (w.alloc (.cells #[] e)).ownsRow B e sz (.slice (some ⟨w.heap.size, 0, none⟩) 0 0) 0 [] :=
 World.ownsRow_lit (e := e) (size := sz) w #[] 0 hB (by decide) (by simp)
section
variable {P : Program} (w : World)
theorem run_append_rows (t ty : TypeId) (base sz : Nat) (e : TypeId) (i : TypeInfo) (z : Value) (bytes : Nat) (ht : P.underlying t = some (.slice e)) (hi : P.info? e = some i) (hz : i.zero = some z)
 (hsize : i.size = sz) (hby : i.bytes = bytes) (hzs : z.cells.size = sz) (hsz : 0 < sz) (g n cap : Nat) (xs : List Value) (hown : w.ownsRow base e sz (.slice (some ⟨g, 0, none⟩) n cap) n xs)
 (A : Option Addr) (m c : Nat) (news : List Value) (hl : news.length = m * sz) (hnews : RCells w A news) (h1 : ∀ u ∈ news, u.oneCell' = true)
 (hm : n + m <= 1000000000) (hby2 : bytes <= 1000) (hbase : base <= w.heap.size) (N : Nat) (hN : n + m = N) (ys : List Value) (hys : xs ++ news = ys) :
 ∃ g2 c2 w', (Builtin.append_ #[t, t] ty #[.slice (some ⟨g, 0, none⟩) n cap, .slice A m c]).run P w = .ok (.slice (some ⟨g2, 0, none⟩) N c2) w' /\
  w'.ownsRow base e sz (.slice (some ⟨g2, 0, none⟩) N c2) N ys /\ w.grownBy w' (some g) /\ Below base w w' /\ (g2 = g \/ w.heap.size <= g2) := by
 subst hN
 subst hys
 have hgl : g < w.heap.size := (World.ownsRow.lt hown g rfl).2
 have hgb : base <= g := (World.ownsRow.lt hown g rfl).1
 have hbel : ∀ w', w.grownBy w' (some g) -> Below base w w' := fun w' hg => (Below.refl base w).grown hg hbase (fun k hk => by cases hk; exact hgb)
 cases m with
 | zero =>
  obtain rfl : news = [] := List.eq_nil_of_length_eq_zero (by simpa using hl)
  have hle : n <= cap := by
   rcases hown.2 with ⟨h1, _⟩ | ⟨g', cap', cur, h1, _, _, h2, _⟩
   · cases h1
   · cases h1; exact h2
  have hs : Src P i.size t (.slice A 0 c) 0 [] w := by
   cases A with
   | none => exact Src.ofNil w ht c
   | some ad => exact Src.ofSlice w ht ad 0 c [] (by simp) (fun j u hu => by simp at hu) (by simp)
  refine ⟨g, cap, w, run_append_nothing w t t ty e i ht hi (some ⟨g, 0, none⟩) n cap hle _ hs, ?_, ⟨rfl, rfl, rfl, Nat.le_refl _, fun _ _ _ => rfl⟩, Below.refl _ _, .inl rfl⟩
  rw [List.append_nil]
  exact hown
 | succ m =>
  rcases hnews with rfl | ⟨g', o', rfl, hnews⟩
  · have : 1 <= (m + 1) * sz := Nat.mul_pos (by omega) hsz
    simp at hl
    omega
  · have hadd : ∀ j, (⟨g', o', none⟩ : Addr).add j = ⟨g', o' + j, none⟩ := fun j => by unfold Addr.add; split <;> simp_all
    obtain ⟨g2, c2, w', hr, h2, h3, h4, h5⟩ := run_append_lies (P := P) w t ty base e i z sz bytes ht hi hz hsize hby hzs hsz _ n xs hown ⟨g', o', none⟩ (m + 1) c news hl
     (fun j u hu => by rw [hadd]; exact hnews j u hu) h1 (by omega) (by unfold maxLen; omega) (Nat.le_trans (Nat.mul_le_mul hm hby2) (by decide)) hbase _ rfl
    exact ⟨g2, c2, w', hr, h2, h3, hbel _ h3, by simp [Value.ownBlock] at h4; omega⟩
theorem wp_append_rows {o : Oper} {a : Act} {K : Act -> World -> Prop} {Q : Exit -> Act -> World -> Prop} (s x : Operand) (t : TypeId)
 (ho : o.op = .call { callee := .builtin .append, args := #[s, x], argTypes := #[t, t] })
 (base sz : Nat) (e : TypeId) (i : TypeInfo) (z : Value) (bytes : Nat) (ht : P.underlying t = some (.slice e)) (hi : P.info? e = some i) (hz : i.zero = some z)
 (hsize : i.size = sz) (hby : i.bytes = bytes) (hzs : z.cells.size = sz) (hsz : 0 < sz) (g n cap : Nat) (xs : List Value) (hs : a.eval s = .slice (some ⟨g, 0, none⟩) n cap) (hown : w.ownsRow base e sz (.slice (some ⟨g, 0, none⟩) n cap) n xs)
 (A : Option Addr) (m c : Nat) (news : List Value) (hx : a.eval x = .slice A m c) (hl : news.length = m * sz) (hnews : RCells w A news) (h1 : ∀ u ∈ news, u.oneCell' = true)
 (hm : n + m <= 1000000000) (hby2 : bytes <= 1000) (hbase : base <= w.heap.size) (N : Nat) (hN : n + m = N) (ys : List Value) (hys : xs ++ news = ys)
 (h : ∀ g2 c2 w', w'.ownsRow base e sz (.slice (some ⟨g2, 0, none⟩) N c2) N ys -> w.grownBy w' (some g) -> Below base w w' -> (g2 = g \/ w.heap.size <= g2) -> K (a.put o.dst (.slice (some ⟨g2, 0, none⟩) N c2)) w') : o.wp P a w K Q := by
 obtain ⟨g2, c2, w', hr, h2, h3, h4, h5⟩ := run_append_rows (P := P) w t o.type base sz e i z bytes ht hi hz hsize hby hzs hsz g n cap xs hown A m c news hl hnews h1 hm hby2 hbase N hN ys hys
 unfold Oper.wp execOp
 simp only [ho, resolve, invoke, builtin, Sem.run_bind, Sem.run_pure, Result.andThen_ok, List.map_toArray, List.map_cons, List.map_nil, hs, hx, hr]
 exact h g2 c2 w' h2 h3 h4 h5
theorem step_append_rows {ops : Array Oper} {o : Oper} {a : Act} {K : Act -> World -> Prop} {Q : Exit -> Act -> World -> Prop} {E : Prop} (hgd : o.guard = none) (s x : Operand) (t : TypeId)
 (ho : o.op = .call { callee := .builtin .append, args := #[s, x], argTypes := #[t, t] })
 (base sz : Nat) (e : TypeId) (i : TypeInfo) (z : Value) (bytes : Nat) (ht : P.underlying t = some (.slice e)) (hi : P.info? e = some i) (hz : i.zero = some z)
 (hsize : i.size = sz) (hby : i.bytes = bytes) (hzs : z.cells.size = sz) (hsz : 0 < sz) (g n cap : Nat) (xs : List Value) (hs : a.eval s = .slice (some ⟨g, 0, none⟩) n cap) (hown : w.ownsRow base e sz (.slice (some ⟨g, 0, none⟩) n cap) n xs)
 (A : Option Addr) (m c : Nat) (news : List Value) (hx : a.eval x = .slice A m c) (hl : news.length = m * sz) (hnews : RCells w A news) (h1 : ∀ u ∈ news, u.oneCell' = true)
 (hm : n + m <= 1000000000) (hby2 : bytes <= 1000) (hbase : base <= w.heap.size) (N : Nat) (hN : n + m = N) (ys : List Value) (hys : xs ++ news = ys)
 (h : ∀ g2 c2 w', w'.ownsRow base e sz (.slice (some ⟨g2, 0, none⟩) N c2) N ys -> w.grownBy w' (some g) -> Below base w w' -> (g2 = g \/ w.heap.size <= g2) -> K (a.put o.dst (.slice (some ⟨g2, 0, none⟩) N c2)) w') :
 if Region.wanted o (yielded ops a.tmps) = true then Oper.wp P o a w K Q else E := by
 have hw : Region.wanted o (yielded ops a.tmps) = true := by simp [Region.wanted, hgd]
 rw [if_pos hw]
 exact wp_append_rows w s x t ho base sz e i z bytes ht hi hz hsize hby hzs hsz g n cap xs hs hown A m c news hx hl hnews h1 hm hby2 hbase N hN ys hys h
theorem wpList_append_rows {ops : Array Oper} {rest : List Oper} {o : Oper} {a : Act} {Q : Exit -> Act -> World -> Prop} (hgd : o.guard = none) (s x : Operand) (t : TypeId)
 (ho : o.op = .call { callee := .builtin .append, args := #[s, x], argTypes := #[t, t] })
 (base sz : Nat) (e : TypeId) (i : TypeInfo) (z : Value) (bytes : Nat) (ht : P.underlying t = some (.slice e)) (hi : P.info? e = some i) (hz : i.zero = some z)
 (hsize : i.size = sz) (hby : i.bytes = bytes) (hzs : z.cells.size = sz) (hsz : 0 < sz) (g n cap : Nat) (xs : List Value) (hs : a.eval s = .slice (some ⟨g, 0, none⟩) n cap) (hown : w.ownsRow base e sz (.slice (some ⟨g, 0, none⟩) n cap) n xs)
 (A : Option Addr) (m c : Nat) (news : List Value) (hx : a.eval x = .slice A m c) (hl : news.length = m * sz) (hnews : RCells w A news) (h1 : ∀ u ∈ news, u.oneCell' = true)
 (hm : n + m <= 1000000000) (hby2 : bytes <= 1000) (hbase : base <= w.heap.size) (N : Nat) (hN : n + m = N) (ys : List Value) (hys : xs ++ news = ys)
 (h : ∀ g2 c2 w', w'.ownsRow base e sz (.slice (some ⟨g2, 0, none⟩) N c2) N ys -> w.grownBy w' (some g) -> Below base w w' -> (g2 = g \/ w.heap.size <= g2) -> wpList P ops Q rest (a.put o.dst (.slice (some ⟨g2, 0, none⟩) N c2)) w') : wpList P ops Q (o :: rest) a w :=
 wpList_plain hgd fun _ hK => wp_append_rows w s x t ho base sz e i z bytes ht hi hz hsize hby hzs hsz g n cap xs hs hown A m c news hx hl hnews h1 hm hby2 hbase N hN ys hys fun g2 c2 w' h2 h3 h4 h5 => hK _ _ (h g2 c2 w' h2 h3 h4 h5)
end
end Go.Proofs.YtpokompplapkhaaGreatDoor

