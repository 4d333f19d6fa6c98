/- Appends of a row, maybe an empty one, onto a row that the call owns. -/
import Derived.Test.YtkciljcligohnaaDoorMark
import Derived.Deep.AppendLies
import Derived.Deep.Upon
import Derived.Deep.RegionHeld3
namespace Go.Proofs.YtkciljcligohnaaDoor
open Go.RowKit
set_option linter.unusedVariables false
set_option linter.unusedSimpArgs false

/-- Cells that a slice shows: none, or some behind an address. -/
def RCells (w : World) (A : Option Addr) (news : List Value) : Prop :=
  news = [] ∨ ∃ g o, A = some ⟨g, o, none⟩ ∧ ∀ j u, news[j]? = some u → w.cell? ⟨g, o + j, none⟩ = some u
theorem RCells.up {w w1 : World} {A : Option Addr} {ls : List Value} (h : RCells w A ls) (hb : Below w.heap.size w w1) : RCells w1 A ls := by
  rcases h with h | ⟨g, o, rfl, h⟩
  · exact .inl h
  · exact .inr ⟨g, o, rfl, fun i l hl => cell_up hb (h i l hl)⟩
theorem SCells.row {w : World} {A : Option Addr} {ls : List (List UInt8)} (h : SCells w A ls) : RCells w A (strs ls) := by
  rcases h with h | ⟨g, o, rfl, h⟩
  · exact .inl (by rw [h]; rfl)
  · refine .inr ⟨g, o, rfl, fun j u hu => ?_⟩
    simp only [strs, List.getElem?_map, Option.map_eq_some_iff] at hu
    obtain ⟨l, hl, rfl⟩ := hu
    exact h j l hl

/-- The empty row that was just made. -/
theorem own_nil (w : World) (B : Nat) (hB : B ≤ w.heap.size) (e : TypeId) : (w.alloc (.cells #[] e)).ownsRow B e 1 (.slice (some ⟨w.heap.size, 0, none⟩) 0 0) 0 [] :=
  World.ownsRow_lit (e := e) (size := 1) w #[] 0 hB (by decide) (by simp)
theorem own_heap {W W' : World} {B : Nat} {e : TypeId} {v : Value} {n : Nat} {xs : List Value} (h : W.heap = W'.heap) (ho : W.ownsRow B e 1 v n xs) : W'.ownsRow B e 1 v n xs := by
  obtain ⟨h1, h2⟩ := ho
  refine ⟨h1, ?_⟩
  rw [← h]
  exact h2
theorem new2 (w : World) (o1 o2 : Obj) : ((w.alloc o1).alloc o2).heap[w.heap.size + 1]? = some o2 := by
  have := heap_alloc_new (w.alloc o1) o2
  rw [show (w.alloc o1).heap.size = w.heap.size + 1 by simp] at this
  exact this
theorem own_nilH (w : World) (B : Nat) (hB : B ≤ w.heap.size) (e : TypeId) (H : Nat) (hH : w.heap.size = H) : (w.alloc (.cells #[] e)).ownsRow B e 1 (.slice (some ⟨H, 0, none⟩) 0 0) 0 [] := hH ▸ own_nil w B hB e
theorem old2 (w : World) (o1 o2 : Obj) : ((w.alloc o1).alloc o2).heap[w.heap.size]? = some o1 := block_alloc (block_new w o1) o2
theorem row_one {w : World} {k : Nat} {v : Value} (h : w.cell? ⟨k, 0, none⟩ = some v) : RCells w (some ⟨k, 0, none⟩) [v] :=
  .inr ⟨k, 0, rfl, fun j u hu => by
    cases j with
    | zero => simp at hu; subst hu; exact h
    | succ j => simp at hu⟩

section
variable {P : Program} (w : World)

theorem run_append_row (t ty : TypeId) (base : Nat) (e : TypeId) (i : TypeInfo) (z : Value) (bytes : Nat) (ht : P.underlying t = some (.slice e)) (hi : P.info? e = some i) (hz : i.zero = some z)
    (hsize : i.size = 1) (hby : i.bytes = bytes) (hzs : z.cells.size = 1) (g n cap : Nat) (xs : List Value) (hown : w.ownsRow base e 1 (.slice (some ⟨g, 0, none⟩) n cap) n xs)
    (A : Option Addr) (m c : Nat) (news : List Value) (hl : news.length = m) (hnews : RCells w A news) (h1 : ∀ u ∈ news, u.oneCell' = true)
    (hm : n + m ≤ 1000000000) (hby2 : bytes ≤ 1000) (hbase : base ≤ w.heap.size) (N : Nat) (hN : n + m = N) (ys : List Value) (hys : xs ++ news = ys) :
    ∃ g2 c2 w', (Builtin.append_ #[t, t] ty #[.slice (some ⟨g, 0, none⟩) n cap, .slice A m c]).run P w = .ok (.slice (some ⟨g2, 0, none⟩) N c2) w' ∧
      w'.ownsRow base e 1 (.slice (some ⟨g2, 0, none⟩) N c2) N ys ∧ w.grownBy w' (some g) ∧ Below base w w' ∧ (g2 = g ∨ w.heap.size ≤ g2) := by
  subst hN
  subst hys
  have hgl : g < w.heap.size := (World.ownsRow.lt hown g rfl).2
  have hgb : base ≤ g := (World.ownsRow.lt hown g rfl).1
  have hbel : ∀ w', w.grownBy w' (some g) → Below base w w' := fun w' hg => (Below.refl base w).grown hg hbase (fun k hk => by cases hk; exact hgb)
  cases m with
  | zero =>
    obtain rfl : news = [] := List.eq_nil_of_length_eq_zero hl
    have hle : n ≤ cap := by
      rcases hown.2 with ⟨h1, _⟩ | ⟨g', cap', cur, h1, _, _, h2, _⟩
      · cases h1
      · cases h1; exact h2
    have hs : Src P i.size t (.slice A 0 c) 0 [] w := by
      cases A with
      | none => exact Src.ofNil w ht c
      | some ad => exact Src.ofSlice w ht ad 0 c [] (by simp) (fun j u hu => by simp at hu) (by simp)
    refine ⟨g, cap, w, run_append_nothing w t t ty e i ht hi (some ⟨g, 0, none⟩) n cap hle _ hs, ?_, ⟨rfl, rfl, rfl, Nat.le_refl _, fun _ _ _ => rfl⟩, Below.refl _ _, .inl rfl⟩
    rw [List.append_nil]
    exact hown
  | succ m =>
    rcases hnews with rfl | ⟨g', o', rfl, hnews⟩
    · simp at hl
    · have hadd : ∀ j, (⟨g', o', none⟩ : Addr).add j = ⟨g', o' + j, none⟩ := fun j => by unfold Addr.add; split <;> simp_all
      obtain ⟨g2, c2, w', hr, h2, h3, h4, h5⟩ := run_append_lies (P := P) w t ty base e i z 1 bytes ht hi hz hsize hby hzs (by decide) _ n xs hown ⟨g', o', none⟩ (m + 1) c news (by omega)
        (fun j u hu => by rw [hadd]; exact hnews j u hu) h1 (by omega) (by unfold maxLen; omega) (Nat.le_trans (Nat.mul_le_mul hm hby2) (by decide)) hbase _ rfl
      exact ⟨g2, c2, w', hr, h2, h3, hbel _ h3, by simp [Value.ownBlock] at h4; omega⟩

theorem wp_append_row {o : Oper} {a : Act} {K : Act → World → Prop} {Q : Exit → Act → World → Prop} (s x : Operand) (t : TypeId)
    (ho : o.op = .call { callee := .builtin .append, args := #[s, x], argTypes := #[t, t] })
    (base : Nat) (e : TypeId) (i : TypeInfo) (z : Value) (bytes : Nat) (ht : P.underlying t = some (.slice e)) (hi : P.info? e = some i) (hz : i.zero = some z)
    (hsize : i.size = 1) (hby : i.bytes = bytes) (hzs : z.cells.size = 1) (g n cap : Nat) (xs : List Value) (hs : a.eval s = .slice (some ⟨g, 0, none⟩) n cap) (hown : w.ownsRow base e 1 (.slice (some ⟨g, 0, none⟩) n cap) n xs)
    (A : Option Addr) (m c : Nat) (news : List Value) (hx : a.eval x = .slice A m c) (hl : news.length = m) (hnews : RCells w A news) (h1 : ∀ u ∈ news, u.oneCell' = true)
    (hm : n + m ≤ 1000000000) (hby2 : bytes ≤ 1000) (hbase : base ≤ w.heap.size) (N : Nat) (hN : n + m = N) (ys : List Value) (hys : xs ++ news = ys)
    (h : ∀ g2 c2 w', w'.ownsRow base e 1 (.slice (some ⟨g2, 0, none⟩) N c2) N ys → w.grownBy w' (some g) → Below base w w' → (g2 = g ∨ w.heap.size ≤ g2) → K (a.put o.dst (.slice (some ⟨g2, 0, none⟩) N c2)) w') : o.wp P a w K Q := by
  obtain ⟨g2, c2, w', hr, h2, h3, h4, h5⟩ := run_append_row (P := P) w t o.type base e i z bytes ht hi hz hsize hby hzs g n cap xs hown A m c news hl hnews h1 hm hby2 hbase N hN ys hys
  unfold Oper.wp execOp
  simp only [ho, resolve, invoke, builtin, Sem.run_bind, Sem.run_pure, Result.andThen_ok, List.map_toArray, List.map_cons, List.map_nil, hs, hx, hr]
  exact h g2 c2 w' h2 h3 h4 h5

/-- At a step of a region that draws. -/
theorem step_append_row {ops : Array Oper} {o : Oper} {a : Act} {K : Act → World → Prop} {Q : Exit → Act → World → Prop} {E : Prop} (hgd : o.guard = none) (s x : Operand) (t : TypeId)
    (ho : o.op = .call { callee := .builtin .append, args := #[s, x], argTypes := #[t, t] })
    (base : Nat) (e : TypeId) (i : TypeInfo) (z : Value) (bytes : Nat) (ht : P.underlying t = some (.slice e)) (hi : P.info? e = some i) (hz : i.zero = some z)
    (hsize : i.size = 1) (hby : i.bytes = bytes) (hzs : z.cells.size = 1) (g n cap : Nat) (xs : List Value) (hs : a.eval s = .slice (some ⟨g, 0, none⟩) n cap) (hown : w.ownsRow base e 1 (.slice (some ⟨g, 0, none⟩) n cap) n xs)
    (A : Option Addr) (m c : Nat) (news : List Value) (hx : a.eval x = .slice A m c) (hl : news.length = m) (hnews : RCells w A news) (h1 : ∀ u ∈ news, u.oneCell' = true)
    (hm : n + m ≤ 1000000000) (hby2 : bytes ≤ 1000) (hbase : base ≤ w.heap.size) (N : Nat) (hN : n + m = N) (ys : List Value) (hys : xs ++ news = ys)
    (h : ∀ g2 c2 w', w'.ownsRow base e 1 (.slice (some ⟨g2, 0, none⟩) N c2) N ys → w.grownBy w' (some g) → Below base w w' → (g2 = g ∨ w.heap.size ≤ g2) → K (a.put o.dst (.slice (some ⟨g2, 0, none⟩) N c2)) w') :
    if Region.wanted o (yielded ops a.tmps) = true then Oper.wp P o a w K Q else E := by
  have hw : Region.wanted o (yielded ops a.tmps) = true := by simp [Region.wanted, hgd]
  rw [if_pos hw]
  exact wp_append_row w s x t ho base e i z bytes ht hi hz hsize hby hzs g n cap xs hs hown A m c news hx hl hnews h1 hm hby2 hbase N hN ys hys h

/-- At a plain region's list. -/
theorem wpList_append_row {ops : Array Oper} {rest : List Oper} {o : Oper} {a : Act} {Q : Exit → Act → World → Prop} (hgd : o.guard = none) (s x : Operand) (t : TypeId)
    (ho : o.op = .call { callee := .builtin .append, args := #[s, x], argTypes := #[t, t] })
    (base : Nat) (e : TypeId) (i : TypeInfo) (z : Value) (bytes : Nat) (ht : P.underlying t = some (.slice e)) (hi : P.info? e = some i) (hz : i.zero = some z)
    (hsize : i.size = 1) (hby : i.bytes = bytes) (hzs : z.cells.size = 1) (g n cap : Nat) (xs : List Value) (hs : a.eval s = .slice (some ⟨g, 0, none⟩) n cap) (hown : w.ownsRow base e 1 (.slice (some ⟨g, 0, none⟩) n cap) n xs)
    (A : Option Addr) (m c : Nat) (news : List Value) (hx : a.eval x = .slice A m c) (hl : news.length = m) (hnews : RCells w A news) (h1 : ∀ u ∈ news, u.oneCell' = true)
    (hm : n + m ≤ 1000000000) (hby2 : bytes ≤ 1000) (hbase : base ≤ w.heap.size) (N : Nat) (hN : n + m = N) (ys : List Value) (hys : xs ++ news = ys)
    (h : ∀ g2 c2 w', w'.ownsRow base e 1 (.slice (some ⟨g2, 0, none⟩) N c2) N ys → w.grownBy w' (some g) → Below base w w' → (g2 = g ∨ w.heap.size ≤ g2) → wpList P ops Q rest (a.put o.dst (.slice (some ⟨g2, 0, none⟩) N c2)) w') : wpList P ops Q (o :: rest) a w :=
  wpList_plain hgd fun _ hK => wp_append_row w s x t ho base e i z bytes ht hi hz hsize hby hzs g n cap xs hs hown A m c news hx hl hnews h1 hm hby2 hbase N hN ys hys fun g2 c2 w' h2 h3 h4 h5 => hK _ _ (h g2 c2 w' h2 h3 h4 h5)
end

end Go.Proofs.YtkciljcligohnaaDoor
