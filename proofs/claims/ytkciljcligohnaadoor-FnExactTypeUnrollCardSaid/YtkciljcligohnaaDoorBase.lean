/- Pure trees, types and values, and how they lie in memory. -/
import Derived.Test.YtkciljcligohnaaDoorProg
import Derived.Below
import Derived.Deep.Draws
import Derived.OwnWalk
import Derived.Laws.MakeOwn
import Derived.Laws.OwnMore
import Derived.Deep.OwnRows
import Derived.Tactics
import Derived.Laws.Slices
import Derived.WalkKit
import Derived.WalkSpells
import Derived.KernelRfl
import Derived.RowKit3
import Derived.Deep.LoopGhost
import Derived.Deep.QuietTactic
import Derived.BigQuiet
import Derived.WideLaws
import Derived.Deep.DeepCutAuto
import Derived.Deep.CutBlock
import Derived.Deep.RegionHeld3
import Derived.Deep.DrawnRows
import Derived.Deep.AppendLies
import Derived.Laws.Rows
import Derived.Lib.AppendStr
import Derived.Lib.Hide
import Derived.ArgAppend
import Derived.Laws.IdiomCopy
import Derived.OrdersHeld
import Derived.Laws.BitsLemmas
import Derived.RowKit
namespace Go.Proofs.YtkciljcligohnaaDoor
open Go.RowKit
set_option linter.unusedVariables false
set_option linter.unusedSimpArgs false

/-- Bytes as Go's string. -/
abbrev St (l : List UInt8) : ByteArray := ⟨⟨l⟩⟩

/-! ### pure data -/

/-- What is read: an atom, or parts. -/
inductive Tr where
  | mk (atom : List UInt8) (parts : List Tr)

/-- Types of the program under proof: bound names by depth. -/
inductive Ty where
  | zero | one
  | name (s : List UInt8)
  | bound (k : Nat)
  | sum (a b : Ty)
  | prod (a b : Ty)
  | loop (a : Ty)
  deriving DecidableEq

/-- Values. -/
inductive V where
  | u
  | el (s : List UInt8)
  | l (a : V)
  | r (a : V)
  | f (a : V)
  | p (a b : V)
  deriving DecidableEq

/-! ### memory that only grows -/

theorem cell_up {w w1 : World} (h : Below w.heap.size w w1) {a : Addr} {v : Value} (hc : w.cell? a = some v) : w1.cell? a = some v :=
  (h.cell (World.block_lt_of_cell? w a hc)).trans hc

theorem below_then {B : Nat} {w w1 w2 : World} (h : Below B w w1) (hB : B ≤ w1.heap.size) (k : Below w1.heap.size w1 w2) : Below B w w2 :=
  h.trans (k.mono hB)

theorem up_trans {w w1 w2 : World} (h : Below w.heap.size w w1) (k : Below w1.heap.size w1 w2) : Below w.heap.size w w2 :=
  h.trans (k.mono h.size)

theorem up_drewN (w : World) (n : Nat) : Below w.heap.size w (w.drewN n) := ⟨rfl, rfl, rfl, Nat.le_refl _, fun _ _ => rfl⟩
theorem up_drew {w w1 : World} (h : Below w.heap.size w w1) : Below w.heap.size w w1.drew := ⟨h.os, h.tape, h.output, h.size, h.block⟩
theorem up_alloc {w w1 : World} (h : Below w.heap.size w w1) (o : Obj) : Below w.heap.size w (w1.alloc o) := h.alloc h.size o

theorem set0 {B : Nat} {a w : World} (h : Below B a w) {g i : Nat} {u : Value} (hp : B ≤ g) : Below B a (w.setCell ⟨g, i, none⟩ u) := h.setCell hp u
theorem up1 (w : World) (o : Obj) : Below w.heap.size w (w.alloc o) := up_alloc (Below.refl _ _) o

/-! ### what a block is -/

theorem lt_of_block {w : World} {g : Nat} {o : Obj} (h : w.heap[g]? = some o) : g < w.heap.size := (Array.getElem?_eq_some_iff.1 h).1
theorem block_up {w w1 : World} (hb : Below w.heap.size w w1) {g : Nat} {o : Obj} (h : w.heap[g]? = some o) : w1.heap[g]? = some o := (hb.block g (lt_of_block h)).trans h
theorem block_new (w : World) (o : Obj) : (w.alloc o).heap[w.heap.size]? = some o := heap_alloc_new w o
theorem block_alloc {w : World} {g : Nat} {o : Obj} (h : w.heap[g]? = some o) (o' : Obj) : (w.alloc o').heap[g]? = some o := block_up (up_alloc (Below.refl _ _) o') h
theorem block_cell {w : World} {g : Nat} {t : TypeId} {cs : Array Value} {fr : Nat × Nat} (h : w.heap[g]? = some (.cells cs t fr)) (i : Nat) : w.cell? ⟨g, i, none⟩ = cs[i]? := cell_of_row w g i cs t fr h
theorem block_free {w : World} {g : Nat} {t : TypeId} {cs : Array Value} (h : w.heap[g]? = some (.cells cs t (0, 0))) (i : Nat) : w.frozen? ⟨g, i, none⟩ = false := by simp [World.frozen?, h]

/-- All blocks of cells of type e are as they were. -/
def Keeps (e : TypeId) (w w1 : World) : Prop := ∀ (k : Nat) (cs : Array Value) (fr : Nat × Nat), w.heap[k]? = some (.cells cs e fr) → w1.heap[k]? = some (.cells cs e fr)
theorem Keeps.refl (e : TypeId) (w : World) : Keeps e w w := fun _ _ _ h => h
theorem Keeps.trans {e : TypeId} {w w1 w2 : World} (h : Keeps e w w1) (k : Keeps e w1 w2) : Keeps e w w2 := fun _ _ _ hb => k _ _ _ (h _ _ _ hb)
theorem Keeps.up {e : TypeId} {w w1 : World} (h : Below w.heap.size w w1) : Keeps e w w1 := fun _ _ _ hb => block_up h hb
theorem Keeps.set_ {e e' : TypeId} {w : World} {a : Addr} {cs : Array Value} {fr : Nat × Nat} (h : w.heap[a.block]? = some (.cells cs e' fr)) (hne : e ≠ e') (v : Value) : Keeps e w (w.setCell a v) := fun k cs1 fr1 hb => by
  have hk : k ≠ a.block := fun hk => by
    subst hk
    rw [h] at hb
    injection hb with hb
    injection hb with _ he _
    exact hne he.symm
  rw [Below.heap_setCell _ _ _ _ hk]
  exact hb
theorem Keeps.grown {e e' : TypeId} {w w1 : World} {base size n : Nat} {v : Value} {xs : List Value} (ho : w.ownsRow base e' size v n xs) (hg : w.grownBy w1 v.ownBlock) (hne : e ≠ e') : Keeps e w w1 := fun k cs1 fr1 hb => by
  rw [hg.block k (lt_of_block hb) ?_]
  · exact hb
  · intro hk
    rcases ho.2 with ⟨rfl, _⟩ | ⟨g, cap, cur, rfl, _, hh, _⟩
    · simp [Value.ownBlock] at hk
    · have : k = g := by simpa [Value.ownBlock] using hk
      subst this
      rw [hh] at hb
      injection hb with hb
      injection hb with _ he _
      exact hne he.symm

/-! ### types in memory -/

def TyN (w : World) (p : Option Addr) (sg : Int) (nm : List UInt8) (up : Int) (pa pb : Option Addr) : Prop :=
  ∃ g, p = some ⟨g, 0, none⟩ ∧ w.heap[g]? = some (.cells #[.int .u8 sg, .string (St nm), .int .i64 up, .pointer pa, .pointer pb] 56 (0, 0))

def TyAt (w : World) : Ty → Option Addr → Prop
  | .zero, p => TyN w p 48 [] 0 none none
  | .one, p => TyN w p 49 [] 0 none none
  | .name s, p => TyN w p 110 s 0 none none
  | .bound k, p => TyN w p 98 [] k none none
  | .sum a b, p => ∃ pa pb, TyN w p 43 [] 0 pa pb ∧ TyAt w a pa ∧ TyAt w b pb
  | .prod a b, p => ∃ pa pb, TyN w p 42 [] 0 pa pb ∧ TyAt w a pa ∧ TyAt w b pb
  | .loop a, p => ∃ pa, TyN w p 114 [] 0 pa none ∧ TyAt w a pa

theorem TyN.keep {w w1 : World} (hb : Keeps 56 w w1) {p pa pb : Option Addr} {sg up : Int} {nm : List UInt8} (h : TyN w p sg nm up pa pb) : TyN w1 p sg nm up pa pb := by
  obtain ⟨g, rfl, h⟩ := h
  exact ⟨g, rfl, hb _ _ _ h⟩
theorem TyAt.keep {w w1 : World} (hb : Keeps 56 w w1) : ∀ {t : Ty} {p : Option Addr}, TyAt w t p → TyAt w1 t p
  | .zero, _, h => TyN.keep hb h
  | .one, _, h => TyN.keep hb h
  | .name _, _, h => TyN.keep hb h
  | .bound _, _, h => TyN.keep hb h
  | .sum _ _, _, ⟨pa, pb, h, ha, hb'⟩ => ⟨pa, pb, h.keep hb, TyAt.keep hb ha, TyAt.keep hb hb'⟩
  | .prod _ _, _, ⟨pa, pb, h, ha, hb'⟩ => ⟨pa, pb, h.keep hb, TyAt.keep hb ha, TyAt.keep hb hb'⟩
  | .loop _, _, ⟨pa, h, ha⟩ => ⟨pa, h.keep hb, TyAt.keep hb ha⟩
theorem TyAt.up {w w1 : World} (hb : Below w.heap.size w w1) {t : Ty} {p : Option Addr} (h : TyAt w t p) : TyAt w1 t p := h.keep (.up hb)

theorem TyN.some_ {w : World} {p pa pb : Option Addr} {sg up : Int} {nm : List UInt8} (h : TyN w p sg nm up pa pb) : ∃ g, p = some ⟨g, 0, none⟩ := by
  obtain ⟨g, rfl, _⟩ := h
  exact ⟨g, rfl⟩
theorem TyAt.some_ {w : World} : ∀ {t : Ty} {p : Option Addr}, TyAt w t p → ∃ g, p = some ⟨g, 0, none⟩
  | .zero, _, h => TyN.some_ h
  | .one, _, h => TyN.some_ h
  | .name _, _, h => TyN.some_ h
  | .bound _, _, h => TyN.some_ h
  | .sum _ _, _, ⟨_, _, h, _, _⟩ => h.some_
  | .prod _ _, _, ⟨_, _, h, _, _⟩ => h.some_
  | .loop _, _, ⟨_, h, _⟩ => h.some_

/-! ### values in memory -/

def VN (w : World) (p : Option Addr) (sg : Int) (el : List UInt8) (pa pb : Option Addr) : Prop :=
  ∃ g, p = some ⟨g, 0, none⟩ ∧ w.heap[g]? = some (.cells #[.int .u8 sg, .string (St el), .pointer pa, .pointer pb] 90 (0, 0))

def VAt (w : World) : V → Option Addr → Prop
  | .u, p => VN w p 117 [] none none
  | .el s, p => VN w p 101 s none none
  | .l a, p => ∃ pa, VN w p 108 [] pa none ∧ VAt w a pa
  | .r a, p => ∃ pa, VN w p 114 [] pa none ∧ VAt w a pa
  | .f a, p => ∃ pa, VN w p 102 [] pa none ∧ VAt w a pa
  | .p a b, p => ∃ pa pb, VN w p 112 [] pa pb ∧ VAt w a pa ∧ VAt w b pb

theorem VN.keep {w w1 : World} (hb : Keeps 90 w w1) {p pa pb : Option Addr} {sg : Int} {el : List UInt8} (h : VN w p sg el pa pb) : VN w1 p sg el pa pb := by
  obtain ⟨g, rfl, h⟩ := h
  exact ⟨g, rfl, hb _ _ _ h⟩
theorem VAt.keep {w w1 : World} (hb : Keeps 90 w w1) : ∀ {v : V} {p : Option Addr}, VAt w v p → VAt w1 v p
  | .u, _, h => VN.keep hb h
  | .el _, _, h => VN.keep hb h
  | .l _, _, ⟨pa, h, ha⟩ => ⟨pa, h.keep hb, VAt.keep hb ha⟩
  | .r _, _, ⟨pa, h, ha⟩ => ⟨pa, h.keep hb, VAt.keep hb ha⟩
  | .f _, _, ⟨pa, h, ha⟩ => ⟨pa, h.keep hb, VAt.keep hb ha⟩
  | .p _ _, _, ⟨pa, pb, h, ha, hb'⟩ => ⟨pa, pb, h.keep hb, VAt.keep hb ha, VAt.keep hb hb'⟩
theorem VAt.up {w w1 : World} (hb : Below w.heap.size w w1) {v : V} {p : Option Addr} (h : VAt w v p) : VAt w1 v p := h.keep (.up hb)
theorem VN.some_ {w : World} {p pa pb : Option Addr} {sg : Int} {el : List UInt8} (h : VN w p sg el pa pb) : ∃ g, p = some ⟨g, 0, none⟩ := by
  obtain ⟨g, rfl, _⟩ := h
  exact ⟨g, rfl⟩
theorem VAt.some_ {w : World} : ∀ {v : V} {p : Option Addr}, VAt w v p → ∃ g, p = some ⟨g, 0, none⟩
  | .u, _, h => VN.some_ h
  | .el _, _, h => VN.some_ h
  | .l _, _, ⟨_, h, _⟩ => h.some_
  | .r _, _, ⟨_, h, _⟩ => h.some_
  | .f _, _, ⟨_, h, _⟩ => h.some_
  | .p _ _, _, ⟨_, _, h, _, _⟩ => h.some_

/-! ### read texts in memory: pointers to structs with rows of pointers (the program), rows of structs (the reference); 'ok': which blocks they may lie in -/

mutual
def EAt (w : World) (ok : Nat → Prop) : Tr → Option Addr → Prop
  | .mk s ps, p => ∃ g A c, p = some ⟨g, 0, none⟩ ∧ ok g ∧ w.heap[g]? = some (.cells #[.string (St s), .slice A ps.length c] 102 (0, 0)) ∧ ps.length ≤ c ∧ ERow w ok ps A
def ERow (w : World) (ok : Nat → Prop) : List Tr → Option Addr → Prop
  | [], _ => True
  | t :: ts, A => ∃ b o p cur, A = some ⟨b, o, none⟩ ∧ ok b ∧ w.heap[b]? = some (.cells cur 74 (0, 0)) ∧ cur[o]? = some (.pointer p) ∧ EAt w ok t p ∧ ERow w ok ts (some ⟨b, o + 1, none⟩)
end

mutual
theorem EAt.move {w w1 : World} {ok ok' : Nat → Prop} (hb : ∀ k, k < w.heap.size → ok k → ok' k ∧ w1.heap[k]? = w.heap[k]?) : ∀ {t : Tr} {p : Option Addr}, EAt w ok t p → EAt w1 ok' t p
  | .mk _ _, _, h => by
    obtain ⟨g, A, c, rfl, h0, h1, hc, hr⟩ := h
    have h2 := hb g (lt_of_block h1) h0
    exact ⟨g, A, c, rfl, h2.1, h2.2.trans h1, hc, ERow.move hb hr⟩
theorem ERow.move {w w1 : World} {ok ok' : Nat → Prop} (hb : ∀ k, k < w.heap.size → ok k → ok' k ∧ w1.heap[k]? = w.heap[k]?) : ∀ {ts : List Tr} {A : Option Addr}, ERow w ok ts A → ERow w1 ok' ts A
  | [], _, _ => trivial
  | _ :: _, _, h => by
    obtain ⟨b, o, p, cur, rfl, h0, h1, hc, ht, hr⟩ := h
    have h2 := hb b (lt_of_block h1) h0
    exact ⟨b, o, p, cur, rfl, h2.1, h2.2.trans h1, hc, EAt.move hb ht, ERow.move hb hr⟩
end
theorem EAt.up {w w1 : World} {ok : Nat → Prop} (hb : Below w.heap.size w w1) {t : Tr} {p : Option Addr} (h : EAt w ok t p) : EAt w1 ok t p := h.move fun k hk ho => ⟨ho, hb.block k hk⟩
theorem ERow.up {w w1 : World} {ok : Nat → Prop} (hb : Below w.heap.size w w1) {ts : List Tr} {A : Option Addr} (h : ERow w ok ts A) : ERow w1 ok ts A := h.move fun k hk ho => ⟨ho, hb.block k hk⟩
theorem EAt.weak {w : World} {ok ok' : Nat → Prop} (hok : ∀ k, ok k → ok' k) {t : Tr} {p : Option Addr} (h : EAt w ok t p) : EAt w ok' t p := h.move fun k _ ho => ⟨hok k ho, rfl⟩
theorem EAt.some_ {w : World} {ok : Nat → Prop} {t : Tr} {p : Option Addr} (h : EAt w ok t p) : ∃ g, p = some ⟨g, 0, none⟩ := by
  cases t
  obtain ⟨g, A, c, rfl, _⟩ := h
  exact ⟨g, rfl⟩

/-- A row of structs: each two cells, the atom and the parts. -/
inductive TRow (w : World) (ok : Nat → Prop) : List Tr → Option Addr → Prop where
  | nil (A : Option Addr) : TRow w ok [] A
  | cons (b o : Nat) (s : List UInt8) (ps ts : List Tr) (A : Option Addr) (c : Nat) (cur : Array Value) (h0 : ok b) (h1 : w.heap[b]? = some (.cells cur 43 (0, 0))) (h2 : cur[o]? = some (.string (St s)))
      (h3 : cur[o + 1]? = some (.slice A ps.length c)) (hc : ps.length ≤ c) (hp : TRow w ok ps A) (ht : TRow w ok ts (some ⟨b, o + 2, none⟩)) : TRow w ok (.mk s ps :: ts) (some ⟨b, o, none⟩)

theorem TRow.move {w w1 : World} {ok ok' : Nat → Prop} (hb : ∀ k, k < w.heap.size → ok k → ok' k ∧ w1.heap[k]? = w.heap[k]?) {ts : List Tr} {A : Option Addr} (h : TRow w ok ts A) : TRow w1 ok' ts A := by
  induction h with
  | nil A => exact .nil A
  | cons b o s ps ts A c cur h0 h1 h2 h3 hc _ _ ih1 ih2 =>
    have h4 := hb b (lt_of_block h1) h0
    exact .cons b o s ps ts A c cur h4.1 (h4.2.trans h1) h2 h3 hc ih1 ih2
theorem TRow.up {w w1 : World} {ok : Nat → Prop} (hb : Below w.heap.size w w1) {ts : List Tr} {A : Option Addr} (h : TRow w ok ts A) : TRow w1 ok ts A := h.move fun k hk ho => ⟨ho, hb.block k hk⟩
theorem TRow.weak {w : World} {ok ok' : Nat → Prop} (hok : ∀ k, ok k → ok' k) {ts : List Tr} {A : Option Addr} (h : TRow w ok ts A) : TRow w ok' ts A := h.move fun k _ ho => ⟨hok k ho, rfl⟩

/-- A tree as Go's struct value. -/
def TAt (w : World) (ok : Nat → Prop) : Tr → Value → Prop
  | .mk s ps, v => ∃ A c, v = .agg #[.string (St s), .slice A ps.length c] ∧ ps.length ≤ c ∧ TRow w ok ps A

theorem TAt.move {w w1 : World} {ok ok' : Nat → Prop} (hb : ∀ k, k < w.heap.size → ok k → ok' k ∧ w1.heap[k]? = w.heap[k]?) {t : Tr} {v : Value} (h : TAt w ok t v) : TAt w1 ok' t v := by
  cases t
  obtain ⟨A, c, rfl, hc, hr⟩ := h
  exact ⟨A, c, rfl, hc, hr.move hb⟩
theorem TAt.up {w w1 : World} {ok : Nat → Prop} (hb : Below w.heap.size w w1) {t : Tr} {v : Value} (h : TAt w ok t v) : TAt w1 ok t v := h.move fun k hk ho => ⟨ho, hb.block k hk⟩

end Go.Proofs.YtkciljcligohnaaDoor
