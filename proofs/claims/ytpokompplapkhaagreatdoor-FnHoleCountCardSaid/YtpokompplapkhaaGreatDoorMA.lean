/- Pure trees, types and values, and how they lie in memory. Reading texts, in plain Lean. The program's reading of texts: isAtomByte, readExpr, readText. Names and elements: isElement, isNamed, isParameter, isLoopName, isCall. The reference's reading of texts: l1Byte, l1Read, l1Parse. -/
import Derived.Test.YtpokompplapkhaaGreatDoorProg
import Derived.Below
import Derived.Deep.Draws
import Derived.OwnWalk
import Derived.Laws.MakeOwn
import Derived.Laws.OwnMore
import Derived.Deep.OwnRows
import Derived.Tactics
import Derived.Laws.Slices
import Derived.WalkKit
import Derived.WalkSpells
import Derived.KernelRfl
import Derived.RowKit3
import Derived.Deep.LoopGhost
import Derived.Deep.QuietTactic
import Derived.BigQuiet
import Derived.WideLaws
import Derived.Deep.DeepCutAuto
import Derived.Deep.CutBlock
import Derived.Deep.RegionHeld3
import Derived.Deep.DrawnRows
import Derived.Deep.AppendLies
import Derived.Laws.Rows
import Derived.Lib.AppendStr
import Derived.Lib.Hide
import Derived.ArgAppend
import Derived.Laws.IdiomCopy
import Derived.OrdersHeld
import Derived.Laws.BitsLemmas
import Derived.RowKit
import Derived.Test.YtpokompplapkhaaGreatDoorShelf
import Derived.Laws.ResultCell
namespace Go.Proofs.YtpokompplapkhaaGreatDoor
set_option maxHeartbeats 4000000
set_option maxRecDepth 100000
open Go.RowKit
set_option linter.unusedVariables false
set_option linter.unusedSimpArgs false
abbrev St (l : List UInt8) : ByteArray := ⟨⟨l⟩⟩
inductive Tr where
 | mk (atom : List UInt8) (parts : List Tr)
inductive Ty where
 | zero | one
 | name (s : List UInt8)
 | bound (k : Nat)
 | sum (a b : Ty)
 | prod (a b : Ty)
 | loop (a : Ty)
 deriving DecidableEq
inductive V where
 | u
 | el (s : List UInt8)
 | l (a : V)
 | r (a : V)
 | f (a : V)
 | p (a b : V)
 deriving DecidableEq
theorem cell_up {w w1 : World} (h : Below w.heap.size w w1) {a : Addr} {v : Value} (hc : w.cell? a = some v) : w1.cell? a = some v :=
 (h.cell (World.block_lt_of_cell? w a hc)).trans hc
theorem below_then {B : Nat} {w w1 w2 : World} (h : Below B w w1) (hB : B <= w1.heap.size) (k : Below w1.heap.size w1 w2) : Below B w w2 :=
 h.trans (k.mono hB)
theorem up_trans {w w1 w2 : World} (h : Below w.heap.size w w1) (k : Below w1.heap.size w1 w2) : Below w.heap.size w w2 :=
 h.trans (k.mono h.size)
theorem up_drewN (w : World) (n : Nat) : Below w.heap.size w (w.drewN n) := ⟨rfl, rfl, rfl, Nat.le_refl _, fun _ _ => rfl⟩
theorem up_drew {w w1 : World} (h : Below w.heap.size w w1) : Below w.heap.size w w1.drew := ⟨h.os, h.tape, h.output, h.size, h.block⟩
theorem up_alloc {w w1 : World} (h : Below w.heap.size w w1) (o : Obj) : Below w.heap.size w (w1.alloc o) := h.alloc h.size o
theorem set0 {B : Nat} {a w : World} (h : Below B a w) {g i : Nat} {u : Value} (hp : B <= g) : Below B a (w.setCell ⟨g, i, none⟩ u) := h.setCell hp u
theorem up1 (w : World) (o : Obj) : Below w.heap.size w (w.alloc o) := up_alloc (Below.refl _ _) o
theorem lt_of_block {w : World} {g : Nat} {o : Obj} (h : w.heap[g]? = some o) : g < w.heap.size := (Array.getElem?_eq_some_iff.1 h).1
theorem block_up {w w1 : World} (hb : Below w.heap.size w w1) {g : Nat} {o : Obj} (h : w.heap[g]? = some o) : w1.heap[g]? = some o := (hb.block g (lt_of_block h)).trans h
theorem block_new (w : World) (o : Obj) : (w.alloc o).heap[w.heap.size]? = some o := heap_alloc_new w o
theorem block_alloc {w : World} {g : Nat} {o : Obj} (h : w.heap[g]? = some o) (o' : Obj) : (w.alloc o').heap[g]? = some o := block_up (up_alloc (Below.refl _ _) o') h
theorem block_cell {w : World} {g : Nat} {t : TypeId} {cs : Array Value} {fr : Nat × Nat} (h : w.heap[g]? = some (.cells cs t fr)) (i : Nat) : w.cell? ⟨g, i, none⟩ = cs[i]? := cell_of_row w g i cs t fr h
theorem block_free {w : World} {g : Nat} {t : TypeId} {cs : Array Value} (h : w.heap[g]? = some (.cells cs t (0, 0))) (i : Nat) : w.frozen? ⟨g, i, none⟩ = false := by simp [World.frozen?, h]
def Keeps (e : TypeId) (w w1 : World) : Prop := ∀ (k : Nat) (cs : Array Value) (fr : Nat × Nat), w.heap[k]? = some (.cells cs e fr) -> w1.heap[k]? = some (.cells cs e fr)
theorem Keeps.refl (e : TypeId) (w : World) : Keeps e w w := fun _ _ _ h => h
theorem Keeps.trans {e : TypeId} {w w1 w2 : World} (h : Keeps e w w1) (k : Keeps e w1 w2) : Keeps e w w2 := fun _ _ _ hb => k _ _ _ (h _ _ _ hb)
theorem Keeps.up {e : TypeId} {w w1 : World} (h : Below w.heap.size w w1) : Keeps e w w1 := fun _ _ _ hb => block_up h hb
theorem Keeps.set_ {e e' : TypeId} {w : World} {a : Addr} {cs : Array Value} {fr : Nat × Nat} (h : w.heap[a.block]? = some (.cells cs e' fr)) (hne : e ≠ e') (v : Value) : Keeps e w (w.setCell a v) := fun k cs1 fr1 hb => by
 have hk : k ≠ a.block := fun hk => by
  subst hk
  rw [h] at hb
  injection hb with hb
  injection hb with _ he _
  exact hne he.symm
 rw [Below.heap_setCell _ _ _ _ hk]
 exact hb
theorem Keeps.grown {e e' : TypeId} {w w1 : World} {base size n : Nat} {v : Value} {xs : List Value} (ho : w.ownsRow base e' size v n xs) (hg : w.grownBy w1 v.ownBlock) (hne : e ≠ e') : Keeps e w w1 := fun k cs1 fr1 hb => by
 rw [hg.block k (lt_of_block hb) ?_]
 · exact hb
 · intro hk
   rcases ho.2 with ⟨rfl, _⟩ | ⟨g, cap, cur, rfl, _, hh, _⟩
   · simp [Value.ownBlock] at hk
   · have : k = g := by simpa [Value.ownBlock] using hk
     subst this
     rw [hh] at hb
     injection hb with hb
     injection hb with _ he _
     exact hne he.symm
def TyN (w : World) (p : Option Addr) (sg : Int) (nm : List UInt8) (up : Int) (pa pb : Option Addr) : Prop :=
 ∃ g, p = some ⟨g, 0, none⟩ /\ w.heap[g]? = some (.cells #[.int .u8 sg, .string (St nm), .int .i64 up, .pointer pa, .pointer pb] 124 (0, 0))
def TyAt (w : World) : Ty -> Option Addr -> Prop
 | .zero, p => TyN w p 48 [] 0 none none
 | .one, p => TyN w p 49 [] 0 none none
 | .name s, p => TyN w p 110 s 0 none none
 | .bound k, p => TyN w p 98 [] k none none
 | .sum a b, p => ∃ pa pb, TyN w p 43 [] 0 pa pb /\ TyAt w a pa /\ TyAt w b pb
 | .prod a b, p => ∃ pa pb, TyN w p 42 [] 0 pa pb /\ TyAt w a pa /\ TyAt w b pb
 | .loop a, p => ∃ pa, TyN w p 114 [] 0 pa none /\ TyAt w a pa
theorem TyN.keep {w w1 : World} (hb : Keeps 124 w w1) {p pa pb : Option Addr} {sg up : Int} {nm : List UInt8} (h : TyN w p sg nm up pa pb) : TyN w1 p sg nm up pa pb := by
 obtain ⟨g, rfl, h⟩ := h
 exact ⟨g, rfl, hb _ _ _ h⟩
theorem TyAt.keep {w w1 : World} (hb : Keeps 124 w w1) : ∀ {t : Ty} {p : Option Addr}, TyAt w t p -> TyAt w1 t p
 | .zero, _, h => TyN.keep hb h
 | .one, _, h => TyN.keep hb h
 | .name _, _, h => TyN.keep hb h
 | .bound _, _, h => TyN.keep hb h
 | .sum _ _, _, ⟨pa, pb, h, ha, hb'⟩ => ⟨pa, pb, h.keep hb, TyAt.keep hb ha, TyAt.keep hb hb'⟩
 | .prod _ _, _, ⟨pa, pb, h, ha, hb'⟩ => ⟨pa, pb, h.keep hb, TyAt.keep hb ha, TyAt.keep hb hb'⟩
 | .loop _, _, ⟨pa, h, ha⟩ => ⟨pa, h.keep hb, TyAt.keep hb ha⟩
theorem TyAt.up {w w1 : World} (hb : Below w.heap.size w w1) {t : Ty} {p : Option Addr} (h : TyAt w t p) : TyAt w1 t p := h.keep (.up hb)
theorem TyN.some_ {w : World} {p pa pb : Option Addr} {sg up : Int} {nm : List UInt8} (h : TyN w p sg nm up pa pb) : ∃ g, p = some ⟨g, 0, none⟩ := by
 obtain ⟨g, rfl, _⟩ := h
 exact ⟨g, rfl⟩
theorem TyAt.some_ {w : World} : ∀ {t : Ty} {p : Option Addr}, TyAt w t p -> ∃ g, p = some ⟨g, 0, none⟩
 | .zero, _, h => TyN.some_ h
 | .one, _, h => TyN.some_ h
 | .name _, _, h => TyN.some_ h
 | .bound _, _, h => TyN.some_ h
 | .sum _ _, _, ⟨_, _, h, _, _⟩ => h.some_
 | .prod _ _, _, ⟨_, _, h, _, _⟩ => h.some_
 | .loop _, _, ⟨_, h, _⟩ => h.some_
def VN (w : World) (p : Option Addr) (sg : Int) (el : List UInt8) (pa pb : Option Addr) : Prop :=
 ∃ g, p = some ⟨g, 0, none⟩ /\ w.heap[g]? = some (.cells #[.int .u8 sg, .string (St el), .pointer pa, .pointer pb] 88 (0, 0))
def VAt (w : World) : V -> Option Addr -> Prop
 | .u, p => VN w p 117 [] none none
 | .el s, p => VN w p 101 s none none
 | .l a, p => ∃ pa, VN w p 108 [] pa none /\ VAt w a pa
 | .r a, p => ∃ pa, VN w p 114 [] pa none /\ VAt w a pa
 | .f a, p => ∃ pa, VN w p 102 [] pa none /\ VAt w a pa
 | .p a b, p => ∃ pa pb, VN w p 112 [] pa pb /\ VAt w a pa /\ VAt w b pb
theorem VN.keep {w w1 : World} (hb : Keeps 88 w w1) {p pa pb : Option Addr} {sg : Int} {el : List UInt8} (h : VN w p sg el pa pb) : VN w1 p sg el pa pb := by
 obtain ⟨g, rfl, h⟩ := h
 exact ⟨g, rfl, hb _ _ _ h⟩
theorem VAt.keep {w w1 : World} (hb : Keeps 88 w w1) : ∀ {v : V} {p : Option Addr}, VAt w v p -> VAt w1 v p
 | .u, _, h => VN.keep hb h
 | .el _, _, h => VN.keep hb h
 | .l _, _, ⟨pa, h, ha⟩ => ⟨pa, h.keep hb, VAt.keep hb ha⟩
 | .r _, _, ⟨pa, h, ha⟩ => ⟨pa, h.keep hb, VAt.keep hb ha⟩
 | .f _, _, ⟨pa, h, ha⟩ => ⟨pa, h.keep hb, VAt.keep hb ha⟩
 | .p _ _, _, ⟨pa, pb, h, ha, hb'⟩ => ⟨pa, pb, h.keep hb, VAt.keep hb ha, VAt.keep hb hb'⟩
theorem VAt.up {w w1 : World} (hb : Below w.heap.size w w1) {v : V} {p : Option Addr} (h : VAt w v p) : VAt w1 v p := h.keep (.up hb)
theorem VN.some_ {w : World} {p pa pb : Option Addr} {sg : Int} {el : List UInt8} (h : VN w p sg el pa pb) : ∃ g, p = some ⟨g, 0, none⟩ := by
 obtain ⟨g, rfl, _⟩ := h
 exact ⟨g, rfl⟩
theorem VAt.some_ {w : World} : ∀ {v : V} {p : Option Addr}, VAt w v p -> ∃ g, p = some ⟨g, 0, none⟩
 | .u, _, h => VN.some_ h
 | .el _, _, h => VN.some_ h
 | .l _, _, ⟨_, h, _⟩ => h.some_
 | .r _, _, ⟨_, h, _⟩ => h.some_
 | .f _, _, ⟨_, h, _⟩ => h.some_
 | .p _ _, _, ⟨_, _, h, _, _⟩ => h.some_
mutual
def EAt (w : World) (ok : Nat -> Prop) : Tr -> Option Addr -> Prop
 | .mk s ps, p => ∃ g A c, p = some ⟨g, 0, none⟩ /\ ok g /\ w.heap[g]? = some (.cells #[.string (St s), .slice A ps.length c] 197 (0, 0)) /\ ps.length <= c /\ ERow w ok ps A
def ERow (w : World) (ok : Nat -> Prop) : List Tr -> Option Addr -> Prop
 | [], _ => True
 | t :: ts, A => ∃ b o p cur, A = some ⟨b, o, none⟩ /\ ok b /\ w.heap[b]? = some (.cells cur 148 (0, 0)) /\ cur[o]? = some (.pointer p) /\ EAt w ok t p /\ ERow w ok ts (some ⟨b, o + 1, none⟩)
end
mutual
theorem EAt.move {w w1 : World} {ok ok' : Nat -> Prop} (hb : ∀ k, k < w.heap.size -> ok k -> ok' k /\ w1.heap[k]? = w.heap[k]?) : ∀ {t : Tr} {p : Option Addr}, EAt w ok t p -> EAt w1 ok' t p
 | .mk _ _, _, h => by
  obtain ⟨g, A, c, rfl, h0, h1, hc, hr⟩ := h
  have h2 := hb g (lt_of_block h1) h0
  exact ⟨g, A, c, rfl, h2.1, h2.2.trans h1, hc, ERow.move hb hr⟩
theorem ERow.move {w w1 : World} {ok ok' : Nat -> Prop} (hb : ∀ k, k < w.heap.size -> ok k -> ok' k /\ w1.heap[k]? = w.heap[k]?) : ∀ {ts : List Tr} {A : Option Addr}, ERow w ok ts A -> ERow w1 ok' ts A
 | [], _, _ => trivial
 | _ :: _, _, h => by
  obtain ⟨b, o, p, cur, rfl, h0, h1, hc, ht, hr⟩ := h
  have h2 := hb b (lt_of_block h1) h0
  exact ⟨b, o, p, cur, rfl, h2.1, h2.2.trans h1, hc, EAt.move hb ht, ERow.move hb hr⟩
end
theorem EAt.up {w w1 : World} {ok : Nat -> Prop} (hb : Below w.heap.size w w1) {t : Tr} {p : Option Addr} (h : EAt w ok t p) : EAt w1 ok t p := h.move fun k hk ho => ⟨ho, hb.block k hk⟩
theorem ERow.up {w w1 : World} {ok : Nat -> Prop} (hb : Below w.heap.size w w1) {ts : List Tr} {A : Option Addr} (h : ERow w ok ts A) : ERow w1 ok ts A := h.move fun k hk ho => ⟨ho, hb.block k hk⟩
theorem EAt.weak {w : World} {ok ok' : Nat -> Prop} (hok : ∀ k, ok k -> ok' k) {t : Tr} {p : Option Addr} (h : EAt w ok t p) : EAt w ok' t p := h.move fun k _ ho => ⟨hok k ho, rfl⟩
theorem EAt.some_ {w : World} {ok : Nat -> Prop} {t : Tr} {p : Option Addr} (h : EAt w ok t p) : ∃ g, p = some ⟨g, 0, none⟩ := by
 cases t
 obtain ⟨g, A, c, rfl, _⟩ := h
 exact ⟨g, rfl⟩
inductive TRow (w : World) (ok : Nat -> Prop) : List Tr -> Option Addr -> Prop where
 | nil (A : Option Addr) : TRow w ok [] A
 | cons (b o : Nat) (s : List UInt8) (ps ts : List Tr) (A : Option Addr) (c : Nat) (cur : Array Value) (h0 : ok b) (h1 : w.heap[b]? = some (.cells cur 59 (0, 0))) (h2 : cur[o]? = some (.string (St s)))
  (h3 : cur[o + 1]? = some (.slice A ps.length c)) (hc : ps.length <= c) (hp : TRow w ok ps A) (ht : TRow w ok ts (some ⟨b, o + 2, none⟩)) : TRow w ok (.mk s ps :: ts) (some ⟨b, o, none⟩)
theorem TRow.move {w w1 : World} {ok ok' : Nat -> Prop} (hb : ∀ k, k < w.heap.size -> ok k -> ok' k /\ w1.heap[k]? = w.heap[k]?) {ts : List Tr} {A : Option Addr} (h : TRow w ok ts A) : TRow w1 ok' ts A := by
 induction h with
 | nil A => exact .nil A
 | cons b o s ps ts A c cur h0 h1 h2 h3 hc _ _ ih1 ih2 =>
  have h4 := hb b (lt_of_block h1) h0
  exact .cons b o s ps ts A c cur h4.1 (h4.2.trans h1) h2 h3 hc ih1 ih2
theorem TRow.up {w w1 : World} {ok : Nat -> Prop} (hb : Below w.heap.size w w1) {ts : List Tr} {A : Option Addr} (h : TRow w ok ts A) : TRow w1 ok ts A := h.move fun k hk ho => ⟨ho, hb.block k hk⟩
theorem TRow.weak {w : World} {ok ok' : Nat -> Prop} (hok : ∀ k, ok k -> ok' k) {ts : List Tr} {A : Option Addr} (h : TRow w ok ts A) : TRow w ok' ts A := h.move fun k _ ho => ⟨hok k ho, rfl⟩
def TAt (w : World) (ok : Nat -> Prop) : Tr -> Value -> Prop
 | .mk s ps, v => ∃ A c, v = .agg #[.string (St s), .slice A ps.length c] /\ ps.length <= c /\ TRow w ok ps A
theorem TAt.move {w w1 : World} {ok ok' : Nat -> Prop} (hb : ∀ k, k < w.heap.size -> ok k -> ok' k /\ w1.heap[k]? = w.heap[k]?) {t : Tr} {v : Value} (h : TAt w ok t v) : TAt w1 ok' t v := by
 cases t
 obtain ⟨A, c, rfl, hc, hr⟩ := h
 exact ⟨A, c, rfl, hc, hr.move hb⟩
theorem TAt.up {w w1 : World} {ok : Nat -> Prop} (hb : Below w.heap.size w w1) {t : Tr} {v : Value} (h : TAt w ok t v) : TAt w1 ok t v := h.move fun k hk ho => ⟨ho, hb.block k hk⟩
end Go.Proofs.YtpokompplapkhaaGreatDoor
namespace Go.Proofs.YtpokompplapkhaaGreatDoor
set_option maxHeartbeats 4000000
set_option maxRecDepth 100000
open Go.RowKit
set_option linter.unusedVariables false
set_option linter.unusedSimpArgs false
def atomB (b : UInt8) : Bool := (97 <= b && b <= 122) || (48 <= b && b <= 57) || b == 43 || b == 42
theorem atomB_int (b : UInt8) : atomB b = (decide ((97 : Int) <= b.toNat) && decide ((b.toNat : Int) <= 122) || decide ((48 : Int) <= b.toNat) && decide ((b.toNat : Int) <= 57) || ((b.toNat : Int) == 43) || ((b.toNat : Int) == 42)) := by
 unfold atomB
 have h1 : ∀ n : UInt8, decide (n <= b) = decide ((n.toNat : Int) <= (b.toNat : Int)) := fun n => by rw [decide_eq_decide, UInt8.le_iff_toNat_le]; omega
 have h2 : ∀ n : UInt8, decide (b <= n) = decide ((b.toNat : Int) <= (n.toNat : Int)) := fun n => by rw [decide_eq_decide, UInt8.le_iff_toNat_le]; omega
 have h3 : ∀ n : UInt8, (b == n) = ((b.toNat : Int) == (n.toNat : Int)) := fun n => by
  rw [Bool.eq_iff_iff, beq_iff_eq, beq_iff_eq, <- UInt8.toNat_inj]; omega
 rw [h1, h1, h2, h2, h3, h3]
 rfl
def rdLoop (f : List UInt8 -> Option (Tr × List UInt8)) : Nat -> List Tr -> List UInt8 -> Option (Tr × List UInt8)
 | 0, _, _ => none
 | n + 1, acc, l => match f l with
  | some (t, b :: r) => if b = 41 then some (.mk [] (acc ++ [t]), r) else if b = 32 then rdLoop f n (acc ++ [t]) r else none
  | _ => none
def rd : Nat -> List UInt8 -> Option (Tr × List UInt8)
 | d, l =>
  if l.takeWhile atomB ≠ [] then some (.mk (l.takeWhile atomB) [], l.dropWhile atomB)
  else match d, l with
   | d + 1, b :: r => if b = 40 then rdLoop (rd d) (r.length + 1) [] r else none
   | _, _ => none
theorem rdLoop_len {f : List UInt8 -> Option (Tr × List UInt8)} (hf : ∀ l t r, f l = some (t, r) -> r.length < l.length) : ∀ (n : Nat) (acc : List Tr) (l : List UInt8) (t : Tr) (r : List UInt8), rdLoop f n acc l = some (t, r) -> r.length < l.length
 | 0, _, _, _, _, h => by simp [rdLoop] at h
 | n + 1, acc, l, t, r, h => by
  unfold rdLoop at h
  split at h
  · rename_i t' b r' hfl
    have h1 := hf _ _ _ hfl
    simp only [List.length_cons] at h1
    split at h
    · simp only [Option.some.injEq, Prod.mk.injEq] at h
      obtain ⟨_, rfl⟩ := h
      omega
    · split at h
      · have h2 := rdLoop_len hf n _ _ _ _ h
        omega
      · simp at h
  · simp at h
theorem take_drop_while_len (l : List UInt8) : (l.takeWhile atomB).length + (l.dropWhile atomB).length = l.length := by
 rw [<- List.length_append, List.takeWhile_append_dropWhile]
theorem rd_len : ∀ (d : Nat) (l : List UInt8) (t : Tr) (r : List UInt8), rd d l = some (t, r) -> r.length < l.length
 | 0, l, t, r, h => by
  unfold rd at h
  split at h
  · rename_i h0
    simp only [Option.some.injEq, Prod.mk.injEq] at h
    obtain ⟨_, rfl⟩ := h
    have := take_drop_while_len l
    have : 0 < (l.takeWhile atomB).length := List.length_pos_iff.2 h0
    omega
  · simp at h
 | d + 1, l, t, r, h => by
  unfold rd at h
  split at h
  · rename_i h0
    simp only [Option.some.injEq, Prod.mk.injEq] at h
    obtain ⟨_, rfl⟩ := h
    have := take_drop_while_len l
    have : 0 < (l.takeWhile atomB).length := List.length_pos_iff.2 h0
    omega
  · cases l with
    | nil => simp at h
    | cons b r' =>
     simp only at h
     split at h
     · have := rdLoop_len (rd_len d) _ _ _ _ _ h
       simp only [List.length_cons]
       omega
     · simp at h
def rdText (l : List UInt8) : Option Tr := if 8000 < l.length then none else match rd 300 l with
 | some (t, []) => some t
 | _ => none
theorem takeWhile_len_of {l : List UInt8} {k : Nat} (hk : k <= l.length) (h1 : ∀ j (h : j < l.length), j < k -> atomB l[j] = true) (h2 : ∀ h : k < l.length, atomB l[k] = false) : l.takeWhile atomB = l.take k /\ l.dropWhile atomB = l.drop k := by
 induction l generalizing k with
 | nil => simp
 | cons b r ih =>
  cases k with
  | zero =>
   have := h2 (by simp)
   simp only [List.getElem_cons_zero] at this
   simp [this]
  | succ k =>
   have h0 := h1 0 (by simp) (by omega)
   simp only [List.getElem_cons_zero] at h0
   simp only [List.length_cons] at hk
   have := ih (k := k) (by omega) (fun j h hj => h1 (j + 1) (by simp; omega) (by omega)) (fun h => h2 (by simp; omega))
   simp [h0, this.1, this.2]
end Go.Proofs.YtpokompplapkhaaGreatDoor
namespace Go.Proofs.YtpokompplapkhaaGreatDoor
set_option maxHeartbeats 4000000
set_option maxRecDepth 100000
open Go.RowKit
set_option linter.unusedVariables false
set_option linter.unusedSimpArgs false
theorem isAtomByte_any (b : UInt8) (w : World) : Calls Tryz.prog 206 #[.int .u8 b.toNat] w fun e w' => e = .returned (.bool (atomB b)) /\ w = w' := by
 rw [atomB_int]
 generalize (b.toNat : Int) = c
 go_enter Tryz.func206, Tryz.ntmps206
 go_wp2
 all_goals go_ret
 all_goals (refine ⟨congrArg (fun b => Ending.returned (.bool b)) ?_, rfl⟩; first | rfl | (rw [Bool.eq_iff_iff]; simp; done) | (rw [Bool.eq_iff_iff]; simp; omega))
def RdPost (w : World) (s : ByteArray) (o : Option (Tr × List UInt8)) (e : Ending) (w' : World) : Prop :=
 Below w.heap.size w w' /\ match o with
  | some (t, r) => ∃ p, e = .returned (.tuple #[.pointer p, .string (St r)]) /\ EAt w' (fun k => w.heap.size <= k) t p
  | none => e = .returned (.tuple #[.pointer none, .string s])
theorem St_of {x : ByteArray} {l : List UInt8} (h : x.data.toList = l) : x = St l := by subst h; rfl
theorem size_list (s : ByteArray) : s.data.toList.length = s.size := (Lib.size_eq s).symm
theorem taken_pos {s : ByteArray} {k : Nat} (h0 : (s.data.toList.takeWhile atomB) ≠ []) (hx : ∀ h : k < s.size, atomB s[k] = false) : 0 < k := by
 rcases Nat.eq_zero_or_pos k with rfl | h
 · exfalso
   apply h0
   have hsz := size_list s
   cases hl : s.data.toList with
   | nil => rfl
   | cons b r =>
    have hlt : 0 < s.size := by rw [<- hsz, hl]; simp
    have h1 := hx hlt
    have h2 : s[0] = b := by
     have : s.data.toList[0]'(by rw [hl]; simp) = b := by simp [hl]
     exact this
    rw [h2] at h1
    simp [h1]
 · exact h
theorem taken_all {s : ByteArray} {k : Nat} (hk : k <= s.size) (h1 : ∀ j (h : j < s.size), j < k -> atomB s[j] = true) (hx : ∀ h : k < s.size, atomB s[k] = false) :
 s.extract 0 k = St (s.data.toList.takeWhile atomB) /\ s.extract k s.size = St (s.data.toList.dropWhile atomB) := by
 have hsz := size_list s
 have h := takeWhile_len_of (l := s.data.toList) (k := k) (by omega) (fun j h hj => h1 j (by omega) hj) (fun h => hx (by omega))
 rw [h.1, h.2]
 exact ⟨St_of (by rw [Lib.extract_data]; simp), St_of (Lib.extract_to_end s k)⟩
theorem readExpr_atom (d : Nat) (s : ByteArray) (x : Int) (w : World) (hs : s.size <= 8000) (h0 : (s.data.toList.takeWhile atomB) ≠ []) :
 Calls Tryz.prog 164 #[.string s, .int .i64 x] w (RdPost w s (rd d s.data.toList)) := by
 have hrd : rd d s.data.toList = some (.mk (s.data.toList.takeWhile atomB) [], s.data.toList.dropWhile atomB) := by
  unfold rd; rw [if_pos h0]
 rw [hrd]
 clear hrd
 have H0 := Lib.hid h0
 clear h0
 go_enter Tryz.func164, Tryz.ntmps164
 go_wp2
 go_loop [6] (fun n => ∃ k : Nat, k <= s.size /\ n = .int .i64 k /\ Hid (∀ j (h : j < s.size), j < k -> atomB s[j] = true)) (fun n => s.size - (intOf n).toNat)
 case atStart => exact ⟨0, Nat.zero_le _, rfl, fun _ _ h => absurd h (Nat.not_lt_zero _)⟩
 case round =>
  obtain ⟨k, hk, rfl, hall⟩ := hrel
  by_cases hat : ∃ h : k < s.size, atomB s[k] = true
  · obtain ⟨hlt, hb⟩ := hat
    have hat := isAtomByte_any s[k]
    have Hb := Lib.hid hb
    rw [hb] at hat
    clear hb
    go_wp2_with (go_at_call 206; refine (hat _).mono ?_; rintro e w' ⟨rfl, rfl⟩)
    go_round
    case rel => exact ⟨k + 1, by omega, by go_num, fun j h hj => by rcases Nat.lt_succ_iff_lt_or_eq.1 hj with h1 | rfl; exact hall.out j h h1; exact Hb.out⟩
    case measure => simp [intOf]; omega
  · have hex : ∀ h : k < s.size, atomB s[k] = false := fun h => by
     cases hb : atomB s[k] with
     | true => exact absurd ⟨h, hb⟩ hat
     | false => rfl
    have hpos := taken_pos H0.out hex
    have Hl := Lib.hid (taken_all hk hall.out hex)
    clear hat
    by_cases hlt : k < s.size
    · have hb := hex hlt
      have hat := isAtomByte_any s[k]
      rw [hb] at hat
      clear hb hex
      go_wp2_with (go_at_call 206; refine (hat _).mono ?_; rintro e w' ⟨rfl, rfl⟩)
      go_region
      go_wp2
      go_ret2
      rw [Hl.out.1, Hl.out.2]
      exact ⟨up_drew (up_alloc (Below.refl _ _) _), _, rfl, _, none, 0, rfl, Nat.le_refl _, block_new w _, Nat.le_refl _, trivial⟩
    · clear hex
      go_wp2
      go_region
      go_wp2
      go_ret2
      rw [Hl.out.1, Hl.out.2]
      exact ⟨up_drew (up_alloc (Below.refl _ _) _), _, rfl, _, none, 0, rfl, Nat.le_refl _, block_new w _, Nat.le_refl _, trivial⟩
inductive Ptrs (w : World) (ok : Nat -> Prop) : List Tr -> List Value -> Prop where
 | nil : Ptrs w ok [] []
 | cons (t : Tr) (p : Option Addr) (ts : List Tr) (ps : List Value) (h : EAt w ok t p) (hr : Ptrs w ok ts ps) : Ptrs w ok (t :: ts) (.pointer p :: ps)
theorem Ptrs.move {w w1 : World} {ok ok' : Nat -> Prop} (hb : ∀ k, k < w.heap.size -> ok k -> ok' k /\ w1.heap[k]? = w.heap[k]?) {ts : List Tr} {ps : List Value} (h : Ptrs w ok ts ps) : Ptrs w1 ok' ts ps := by
 induction h with
 | nil => exact .nil
 | cons t p ts ps h _ ih => exact .cons t p ts ps (h.move hb) ih
theorem Ptrs.snoc {w : World} {ok : Nat -> Prop} {ts : List Tr} {ps : List Value} (h : Ptrs w ok ts ps) {t : Tr} {p : Option Addr} (ht : EAt w ok t p) : Ptrs w ok (ts ++ [t]) (ps ++ [.pointer p]) := by
 induction h with
 | nil => exact .cons t p [] [] ht .nil
 | cons t p ts ps h _ ih => exact .cons t p _ _ h ih
theorem Ptrs.length {w : World} {ok : Nat -> Prop} {ts : List Tr} {ps : List Value} (h : Ptrs w ok ts ps) : ps.length = ts.length := by
 induction h with
 | nil => rfl
 | cons t p ts ps h _ ih => simp [ih]
theorem Ptrs.row {w : World} {ok : Nat -> Prop} {b : Nat} {cur : Array Value} (hb : w.heap[b]? = some (.cells cur 148 (0, 0))) (hok : ok b) {ts : List Tr} {ps : List Value} (h : Ptrs w ok ts ps) :
 ∀ o, (∀ i u, ps[i]? = some u -> cur[o + i]? = some u) -> ERow w ok ts (some ⟨b, o, none⟩) := by
 induction h with
 | nil => exact fun _ _ => trivial
 | cons t p ts ps h _ ih =>
  intro o hc
  exact ⟨b, o, p, cur, rfl, hok, hb, hc 0 _ rfl, h, ih (o + 1) (fun i u hu => by have := hc (i + 1) u (by simpa using hu); rw [show o + 1 + i = o + (i + 1) from by omega]; exact this)⟩
structure RdRel (w : World) (acc : List Tr) (v : Value) (wr : World) : Prop where
 blk : wr.heap[w.heap.size]? = some (.cells #[.string (St []), v] 197 (0, 0))
 own : ∃ ps, wr.ownsRow (w.heap.size + 1) 148 1 v acc.length ps /\ Ptrs wr (fun k => w.heap.size < k /\ some k ≠ v.ownBlock) acc ps
 bel : Below w.heap.size w wr
theorem own_up {w w1 : World} {base : Nat} {e : TypeId} {size n : Nat} {v : Value} {xs : List Value} (h : w.ownsRow base e size v n xs) (hb : Below w.heap.size w w1) : w1.ownsRow base e size v n xs :=
 h.kept (row := none) ⟨hb.os, hb.tape, hb.output, hb.size, fun k hk _ => hb.block k hk⟩ (by cases hv : v.ownBlock <;> simp)
theorem RdRel.up {w wr w1 : World} {acc : List Tr} {v : Value} (h : RdRel w acc v wr) (hb : Below wr.heap.size wr w1) : RdRel w acc v w1 := by
 obtain ⟨hblk, ⟨ps, ho, hp⟩, hbel⟩ := h
 exact ⟨block_up hb hblk, ⟨ps, own_up ho hb, hp.move fun k hk ho => ⟨ho, hb.block k hk⟩⟩, below_then hbel hbel.size hb⟩
theorem RdRel.step {w wr w2 : World} {acc : List Tr} {v : Value} (h : RdRel w acc v wr) {t : Tr} {p : Option Addr} {H g cap : Nat} {ps : List Value}
 (ho : wr.ownsRow (w.heap.size + 1) 148 1 v acc.length ps) (hps : Ptrs wr (fun k => w.heap.size < k /\ some k ≠ v.ownBlock) acc ps)
 (ht : EAt wr (fun k => w.heap.size < k /\ some k ≠ v.ownBlock /\ k < H) t p) (hH : wr.heap.size = H) (hown : w2.ownsRow (w.heap.size + 1) 148 1 (.slice (some ⟨g, 0, none⟩) (acc.length + 1) cap) (acc.length + 1) (ps ++ [.pointer p]))
 (hgrow : (wr.alloc (.cells #[.pointer p] 148)).grownBy w2 v.ownBlock) (hat : v.ownBlock = some g \/ g = H + 1) :
 RdRel w (acc ++ [t]) (.slice (some ⟨g, 0, none⟩) (acc.length + 1) cap) (w2.setCell ⟨w.heap.size, 1, none⟩ (.slice (some ⟨g, 0, none⟩) (acc.length + 1) cap)) := by
 have hlt := lt_of_block h.blk
 have hne : some w.heap.size ≠ v.ownBlock := fun hv => by have := (ho.lt _ hv.symm).1; omega
 have hb2 : ∀ k, k < wr.heap.size -> some k ≠ v.ownBlock -> w2.heap[k]? = wr.heap[k]? := fun k hk hk' => by
  rw [hgrow.block k (by simp; omega) hk']
  exact Below.heap_alloc _ _ _ hk
 have hblk2 : w2.heap[w.heap.size]? = some (.cells #[.string (St []), v] 197 (0, 0)) := (hb2 _ hlt hne).trans h.blk
 have hmove : ∀ k, k < wr.heap.size -> (w.heap.size < k /\ some k ≠ v.ownBlock) -> (w.heap.size < k /\ some k ≠ (Value.slice (some ⟨g, 0, none⟩) (acc.length + 1) cap).ownBlock) /\ (w2.setCell ⟨w.heap.size, 1, none⟩ (.slice (some ⟨g, 0, none⟩) (acc.length + 1) cap)).heap[k]? = wr.heap[k]? := fun k hk ⟨h1, h2⟩ => by
  refine ⟨⟨h1, fun hkg => ?_⟩, ?_⟩
  · have hkg : k = g := by simpa [Value.ownBlock] using hkg
    rcases hat with hat | hat
    · exact h2 (by rw [hat, hkg])
    · omega
  · rw [Below.heap_setCell _ _ _ _ (by show k ≠ w.heap.size; omega)]
    exact hb2 k hk h2
 refine ⟨?_, ⟨ps ++ [.pointer p], ?_, ?_⟩, ?_⟩
 · simp only [World.setCell, Array.getElem?_modify, if_true, hblk2]
   rfl
 · rw [List.length_append]
   exact ownsRow_setCell_below hown (by show w.heap.size < w.heap.size + 1; omega) _
 · exact (hps.move hmove).snoc (ht.move fun k hk hk' => hmove k hk ⟨hk'.1, hk'.2.1⟩)
 · exact Below.setCell (Below.grown (h.bel.alloc h.bel.size _) hgrow (by simp; have := h.bel.size; omega) (fun k hk => by have := (ho.lt _ hk).1; omega)) (Nat.le_refl _) _
theorem RdRel.mid {w wr w2 : World} {acc : List Tr} {v : Value} (h : RdRel w acc v wr) {p : Option Addr} {ps : List Value}
 (ho : wr.ownsRow (w.heap.size + 1) 148 1 v acc.length ps) (hgrow : (wr.alloc (.cells #[.pointer p] 148)).grownBy w2 v.ownBlock) :
 w2.heap[w.heap.size]? = some (.cells #[.string (St []), v] 197 (0, 0)) := by
 have hlt := lt_of_block h.blk
 rw [hgrow.block _ (by simp; omega) (fun hv => by have := (ho.lt _ hv.symm).1; omega)]
 exact block_alloc h.blk _
theorem RdRel.start (w : World) : RdRel w [] (.slice none 0 0) (w.alloc (.cells #[.string (St []), .slice none 0 0] 197)) :=
 ⟨block_new w _, ⟨[], World.ownsRow_nil _ _ _ _, .nil⟩, up_alloc (Below.refl _ _) _⟩
theorem RdRel.done {w wr : World} {acc : List Tr} {v : Value} (h : RdRel w acc v wr) : EAt wr (fun k => w.heap.size <= k) (.mk [] acc) (some ⟨w.heap.size, 0, none⟩) := by
 obtain ⟨hblk, ⟨ps, ho, hp⟩, _⟩ := h
 have hl := hp.length
 rcases ho.2 with ⟨rfl, h0⟩ | ⟨g, cap, cur, rfl, hg, hh, hc, _, _, htk⟩
 · have : acc = [] := List.length_eq_zero_iff.1 h0
   subst this
   exact ⟨_, none, 0, rfl, Nat.le_refl _, hblk, Nat.le_refl _, trivial⟩
 · refine ⟨_, _, cap, rfl, Nat.le_refl _, hblk, hc, ?_⟩
   refine Ptrs.row (b := g) (cur := cur) hh (by omega) (hp.move fun k _ hk => ⟨by omega, rfl⟩) 0 (fun i u hu => ?_)
   have : (cur.toList.take (acc.length * 1))[i]? = some u := by rw [htk]; exact hu
   rw [List.getElem?_take] at this
   split at this
   · simpa using this
   · cases this
theorem readExpr_none (d : Nat) (s : ByteArray) (x : Int) (w : World) (hs : s.size <= 8000) (hx : x + d <= 300) (hx' : 300 <= x + d) (h0 : (s.data.toList.takeWhile atomB) = [])
 (hno : ∀ b r, s.data.toList = b :: r -> d = 0 \/ b ≠ 40) :
 Calls Tryz.prog 164 #[.string s, .int .i64 x] w (RdPost w s (rd d s.data.toList)) := by
 have hrd : rd d s.data.toList = none := by
  unfold rd; rw [if_neg (by simp [h0])]
  split
  · rename_i d b r
    rcases hno _ _ ‹_› with h | h
    · omega
    · rw [if_neg h]
  · rfl
 rw [hrd]
 clear hrd
 cases hl : s.data.toList with
 | nil =>
  have h1 : s.toList.isEmpty = true := by rw [Lib.toList_data, hl]; rfl
  have h2 : s.size = 0 := by rw [<- size_list, hl]; rfl
  clear hno h0 hl
  go_enter Tryz.func164, Tryz.ntmps164
  go_wp2
  go_loop [6] (fun n => n = .int .i64 0) (fun n => 0)
  case atStart => rfl
  case round =>
   subst hrel
   go_wp2
   go_ret2
   exact ⟨Below.refl _ _, rfl⟩
 | cons b r =>
  have h1 : s.toList.isEmpty = false := by rw [Lib.toList_data, hl]; rfl
  have h2 : 0 < s.size := by rw [<- size_list, hl]; simp
  have h3 : s[0] = b := by
   have : s.data.toList[0]'(by rw [hl]; simp) = b := by simp [hl]
   exact this
  have h4 : atomB b = false := by
   rw [hl] at h0
   cases hb : atomB b with
   | true => simp [hb] at h0
   | false => rfl
  have hat := isAtomByte_any b
  rw [h4] at hat
  have h5 : d = 0 \/ b ≠ 40 := hno _ _ hl
  clear hno h0 hl h4
  by_cases hb : b = 40
  · have h6 : (x == 300) = true := by have : d = 0 := by rcases h5 with h | h; exact h; exact absurd hb h
                                      simp; omega
    subst hb
    have hat40 : ∀ w, Calls Tryz.prog 206 #[.int .u8 40] w fun e w' => e = .returned (.bool false) /\ w = w' := hat
    clear h5 hat
    go_enter Tryz.func164, Tryz.ntmps164
    go_wp2
    go_loop [6] (fun n => n = .int .i64 0) (fun n => 0)
    case atStart => rfl
    case round =>
     subst hrel
     go_wp2_with (go_at_call 206; refine (hat40 _).mono ?_; rintro e w' ⟨rfl, rfl⟩)
     go_ret2
     exact ⟨Below.refl _ _, rfl⟩
  · have h6 : ((b.toNat : Int) != 40) = true := by
     rw [bne_iff_ne]
     intro h
     exact hb (UInt8.toNat_inj.1 (by have : (40 : UInt8).toNat = 40 := rfl; omega))
    clear h5
    go_enter Tryz.func164, Tryz.ntmps164
    go_wp2
    go_loop [6] (fun n => n = .int .i64 0) (fun n => 0)
    case atStart => rfl
    case round =>
     subst hrel
     go_wp2_with (go_at_call 206; refine (hat _).mono ?_; rintro e w' ⟨rfl, rfl⟩)
     go_ret2
     exact ⟨Below.refl _ _, rfl⟩
theorem Tryz.infoExprPtr : (Tryz.prog.info? 148).map (fun i => (i.zero, i.size, i.bytes)) = some (some (.pointer none), 1, 8) := by kernel_rfl
theorem cons_bytes {s : ByteArray} {b : UInt8} {r : List UInt8} (hl : s.data.toList = b :: r) : s.toList.isEmpty = false /\ 0 < s.size /\ s.size = r.length + 1 /\ (∀ h : 0 < s.size, s[0] = b) /\ s.extract 1 s.size = St r := by
 have h0 := size_list s
 rw [hl] at h0
 simp only [List.length_cons] at h0
 refine ⟨by rw [Lib.toList_data, hl]; rfl, by omega, by omega, fun h => ?_, St_of (by rw [Lib.extract_to_end, hl]; rfl)⟩
 have : s.data.toList[0]'(by rw [hl]; simp) = b := by simp [hl]
 exact this
theorem byte_eq {b c : UInt8} (h : b = c) : ((b.toNat : Int) == (c.toNat : Int)) = true := by rw [h]; simp
theorem byte_ne {b c : UInt8} (h : b ≠ c) : ((b.toNat : Int) == (c.toNat : Int)) = false := by
 rw [beq_eq_false_iff_ne]
 intro h'
 exact h (UInt8.toNat_inj.1 (by omega))
theorem byte_bne {b c : UInt8} (h : b ≠ c) : ((b.toNat : Int) != (c.toNat : Int)) = true := by
 rw [bne_iff_ne]
 intro h'
 exact h (UInt8.toNat_inj.1 (by omega))
theorem byte_beq {b c : UInt8} (h : b = c) : ((b.toNat : Int) != (c.toNat : Int)) = false := by rw [h]; simp
theorem readExpr_list (d : Nat) (hd : d + 1 <= 300) (s : ByteArray) (x : Int) (w : World) (hs : s.size <= 8000) (hx : x + (d + 1 : Nat) <= 300) (hx' : 300 <= x + (d + 1 : Nat)) (r : List UInt8) (hl : s.data.toList = 40 :: r)
 (ih : ∀ (s : ByteArray) (x : Int) (w : World), s.size <= 8000 -> x + d <= 300 -> 300 <= x + d -> Calls Tryz.prog 164 #[.string s, .int .i64 x] w (RdPost w s (rd d s.data.toList)))
 (o : Option (Tr × List UInt8)) (ho : Hid (rdLoop (rd d) (r.length + 1) [] r = o)) :
 Calls Tryz.prog 164 #[.string s, .int .i64 x] w (RdPost w s o) := by
 obtain ⟨h1, h2, h3, h4, h5⟩ := cons_bytes hl
 replace h4 := h4 h2
 clear hl
 have H3 := Lib.hid h3
 clear h3
 have hat40 : ∀ w, Calls Tryz.prog 206 #[.int .u8 40] w fun e w' => e = .returned (.bool false) /\ w = w' := isAtomByte_any 40
 have h6 : (x == 300) = false := by simp; omega
 obtain ⟨i0, hi0, hz0, hz1, hz2⟩ := info_parts Tryz.infoExprPtr
 have IH := Lib.hid ih
 clear ih
 go_enter Tryz.func164, Tryz.ntmps164
 go_wp2
 go_loop [6] (fun n => n = .int .i64 0) (fun n => 0)
 case atStart => rfl
 case round =>
  subst hrel
  go_wp2_with (go_at_call 206; refine (hat40 _).mono ?_; rintro e w' ⟨rfl, rfl⟩)
  have hr0 : r.length <= 8000 := by have := H3.out; omega
  go_loopg [7] r.length (fun n q wr => ∃ (acc : List Tr) (l : List UInt8) (v : Value), q = .string (St l) /\ RdRel w acc v wr /\ l.length <= n /\ acc.length + l.length <= 8000 /\ (∃ m, n < m /\ Hid (rdLoop (rd d) m acc l = o)))
  case atStart => exact ⟨[], r, _, rfl, RdRel.start w, Nat.le_refl _, by simpa using hr0, _, Nat.lt_succ_self _, ho⟩
  case round =>
   obtain ⟨acc, l, v, rfl, hR, hln, hal, m, hm, HE⟩ := hrel
   have hx0 : 0 <= x := by omega
   have hx1 : x <= 300 := by omega
   clear ho hat40 h1 h4 h5 h2 H3 hr0
   have hcall : Calls Tryz.prog 164 #[.string (St l), .int .i64 (x + 1)] wr (RdPost wr (St l) (rd d l)) := IH.out (St l) (x + 1) wr (show l.length <= 8000 by omega) (by omega) (by omega)
   have HIH := Lib.hid IH
   clear IH
   obtain ⟨m, rfl⟩ : ∃ m', m = m' + 1 := ⟨m - 1, by omega⟩
   have hE := HE.out
   clear HE
   unfold rdLoop at hE
   have c0 := block_cell hR.blk 0
   have c1 := block_cell hR.blk 1
   simp only [List.getElem?_toArray, List.getElem?_cons_zero, List.getElem?_cons_succ] at c0 c1
   cases hrd : rd d l with
   | none =>
    rw [hrd] at hE hcall
    replace hE : none = o := hE
    subst hE
    replace hcall : Calls Tryz.prog 164 #[.string (St l), .int .i64 (x + 1)] wr (fun e w1 => Below wr.heap.size wr w1 /\ e = .returned (.tuple #[.pointer none, .string (St l)])) := hcall
    have HR := Lib.hid hR
    clear hR hrd
    go_wp2_with (go_at_call 164; refine hcall.mono ?_; rintro e w1 ⟨hb1, rfl⟩)
    go_ret2
    exact ⟨below_then HR.out.bel HR.out.bel.size hb1, rfl⟩
   | some tr =>
    obtain ⟨t, q⟩ := tr
    rw [hrd] at hE hcall
    have hlen := rd_len _ _ _ _ hrd
    clear hrd
    replace hcall : Calls Tryz.prog 164 #[.string (St l), .int .i64 (x + 1)] wr (fun e w1 => Below wr.heap.size wr w1 /\ ∃ p, e = .returned (.tuple #[.pointer p, .string (St q)]) /\ EAt w1 (fun k => wr.heap.size <= k) t p) := hcall
    cases q with
    | nil =>
     replace hE : none = o := hE
     subst hE
     have HR := Lib.hid hR
     clear hR
     go_wp2_with (go_at_call 164; refine hcall.mono ?_; rintro e w1 ⟨hb1, p, rfl, hp⟩; obtain ⟨g, rfl⟩ := hp.some_)
     go_ret2
     exact ⟨below_then HR.out.bel HR.out.bel.size hb1, rfl⟩
    | cons b q =>
     replace hE : (if b = 41 then some (Tr.mk [] (acc ++ [t]), q) else if b = 32 then rdLoop (rd d) m (acc ++ [t]) q else none) = o := hE
     obtain ⟨Q, hQ⟩ : ∃ Q : ByteArray, Q = St (b :: q) := ⟨_, rfl⟩
     rw [<- hQ] at hcall
     obtain ⟨k1, k2, k3, k4, k5⟩ := cons_bytes (s := Q) (b := b) (r := q) (by rw [hQ])
     replace k4 := k4 k2
     clear hQ
     have K3 := Lib.hid k3
     clear k3
     simp only [List.length_cons] at hlen
     obtain ⟨ps, ho, hps⟩ := hR.own
     have hsz := hR.bel.size
     have HR := Lib.hid hR
     have HO := Lib.hid ho
     have HPS := Lib.hid hps
     clear hR ho hps
     have hcall2 : Calls Tryz.prog 164 #[.string (St l), .int .i64 (x + 1)] wr (fun e w1 => ∃ p g, p = some ⟨g, 0, none⟩ /\ e = .returned (.tuple #[.pointer p, .string Q]) /\ Hid (Below wr.heap.size wr w1) /\ Hid (EAt w1 (fun k => wr.heap.size <= k) t p) /\
      w.heap.size + 1 <= w1.heap.size /\ Hid (w1.ownsRow (w.heap.size + 1) 148 1 v acc.length ps) /\ w1.cell? ⟨w.heap.size, 0, none⟩ = some (.string (St [])) /\ w1.cell? ⟨w.heap.size, 1, none⟩ = some v) := hcall.mono fun e w1 ⟨hb1, p, he, hp⟩ => by
      obtain ⟨g, rfl⟩ := hp.some_
      have hR1 := HR.out.up hb1
      have c0 := block_cell hR1.blk 0
      have c1 := block_cell hR1.blk 1
      exact ⟨_, g, rfl, he, hb1, hp, by have := hb1.size; have := lt_of_block HR.out.blk; omega, own_up HO.out hb1, c0, c1⟩
     clear hcall c0 c1
     by_cases hb41 : b = 41
     · rw [if_pos hb41] at hE
       subst hE
       have hbt : ((b.toNat : Int) == 41) = true := byte_eq hb41
       clear hb41
       go_wp2_with (first | (go_at_call 164; refine hcall2.mono ?_; rintro e w1 ⟨p, g, rfl, rfl, hb1, hp, hsz1, ho1, c0, c1⟩) | (at_builtin; refine wpList_append_lies _ rfl _ _ 195 rfl (w.heap.size + 1) 148 i0 (.pointer none) 1 8 Tryz.underlying195 hi0 hz0 hz1 hz2 rfl (by decide) v acc.length ps rfl (ho1.out.alloc _) ⟨w1.heap.size, 0, none⟩ 1 1 [.pointer (some ⟨g, 0, none⟩)] rfl rfl (World.news_of_block (cs := #[.pointer (some ⟨g, 0, none⟩)]) (t := 148) (fr := (0, 0)) (heap_alloc_new w1 _)) (by simp [Value.oneCell']) (by decide) (by unfold maxLen; omega) (by omega) (by simp; omega) (w1.heap.size + 1) (by simp) ?_; intro g' cap w2 hown hgrow hat hlt; have hm2 := RdRel.mid (HR.out.up hb1.out) ho1.out hgrow; have d1 : w2.cell? ⟨w.heap.size, 1, none⟩ = some v := block_cell hm2 1; have d2 := block_free hm2 1; have HN := Lib.hid (RdRel.step (HR.out.up hb1.out) ho1.out (HPS.out.move fun k hk ho => ⟨ho, hb1.out.block k hk⟩) (hp.out.move fun k hk hk' => ⟨⟨by have := HR.out.bel.size; have := lt_of_block HR.out.blk; omega, fun hv => by have := (HO.out.lt _ hv.symm).2; omega, hk⟩, rfl⟩) rfl hown hgrow hat); clear hm2 hown hgrow hat hlt))
       go_ret2
       exact ⟨HN.out.bel, _, rfl, HN.out.done⟩
     · rw [if_neg hb41] at hE
       have hbt : ((b.toNat : Int) == 41) = false := byte_ne hb41
       clear hb41
       by_cases hb32 : b = 32
       · rw [if_pos hb32] at hE
         have HE := Lib.hid hE
         clear hE
         have hbu : ((b.toNat : Int) != 32) = false := byte_beq hb32
         clear hb32
         go_wp2_with (first | (go_at_call 164; refine hcall2.mono ?_; rintro e w1 ⟨p, g, rfl, rfl, hb1, hp, hsz1, ho1, c0, c1⟩) | (at_builtin; refine wpList_append_lies _ rfl _ _ 195 rfl (w.heap.size + 1) 148 i0 (.pointer none) 1 8 Tryz.underlying195 hi0 hz0 hz1 hz2 rfl (by decide) v acc.length ps rfl (ho1.out.alloc _) ⟨w1.heap.size, 0, none⟩ 1 1 [.pointer (some ⟨g, 0, none⟩)] rfl rfl (World.news_of_block (cs := #[.pointer (some ⟨g, 0, none⟩)]) (t := 148) (fr := (0, 0)) (heap_alloc_new w1 _)) (by simp [Value.oneCell']) (by decide) (by unfold maxLen; omega) (by omega) (by simp; omega) (w1.heap.size + 1) (by simp) ?_; intro g' cap w2 hown hgrow hat hlt; have hm2 := RdRel.mid (HR.out.up hb1.out) ho1.out hgrow; have d1 : w2.cell? ⟨w.heap.size, 1, none⟩ = some v := block_cell hm2 1; have d2 := block_free hm2 1; have HN := Lib.hid (RdRel.step (HR.out.up hb1.out) ho1.out (HPS.out.move fun k hk ho => ⟨ho, hb1.out.block k hk⟩) (hp.out.move fun k hk hk' => ⟨⟨by have := HR.out.bel.size; have := lt_of_block HR.out.blk; omega, fun hv => by have := (HO.out.lt _ hv.symm).2; omega, hk⟩, rfl⟩) rfl hown hgrow hat); clear hm2 hown hgrow hat hlt))
         go_roundg q.length
         case measure => omega
         case rel => exact ⟨acc ++ [t], q, _, rfl, HN.out, Nat.le_refl _, by simp; omega, m, by omega, HE.out⟩
       · rw [if_neg hb32] at hE
         subst hE
         have hbu : ((b.toNat : Int) != 32) = true := byte_bne hb32
         clear hb32
         go_wp2_with (first | (go_at_call 164; refine hcall2.mono ?_; rintro e w1 ⟨p, g, rfl, rfl, hb1, hp, hsz1, ho1, c0, c1⟩) | (at_builtin; refine wpList_append_lies _ rfl _ _ 195 rfl (w.heap.size + 1) 148 i0 (.pointer none) 1 8 Tryz.underlying195 hi0 hz0 hz1 hz2 rfl (by decide) v acc.length ps rfl (ho1.out.alloc _) ⟨w1.heap.size, 0, none⟩ 1 1 [.pointer (some ⟨g, 0, none⟩)] rfl rfl (World.news_of_block (cs := #[.pointer (some ⟨g, 0, none⟩)]) (t := 148) (fr := (0, 0)) (heap_alloc_new w1 _)) (by simp [Value.oneCell']) (by decide) (by unfold maxLen; omega) (by omega) (by simp; omega) (w1.heap.size + 1) (by simp) ?_; intro g' cap w2 hown hgrow hat hlt; have hm2 := RdRel.mid (HR.out.up hb1.out) ho1.out hgrow; have d1 : w2.cell? ⟨w.heap.size, 1, none⟩ = some v := block_cell hm2 1; have d2 := block_free hm2 1; have HN := Lib.hid (RdRel.step (HR.out.up hb1.out) ho1.out (HPS.out.move fun k hk ho => ⟨ho, hb1.out.block k hk⟩) (hp.out.move fun k hk hk' => ⟨⟨by have := HR.out.bel.size; have := lt_of_block HR.out.blk; omega, fun hv => by have := (HO.out.lt _ hv.symm).2; omega, hk⟩, rfl⟩) rfl hown hgrow hat); clear hm2 hown hgrow hat hlt))
         go_ret2
         exact ⟨HN.out.bel, rfl⟩
theorem readExpr_any : ∀ (d : Nat) (s : ByteArray) (x : Int) (w : World), d <= 300 -> s.size <= 8000 -> x + d <= 300 -> 300 <= x + d ->
 Calls Tryz.prog 164 #[.string s, .int .i64 x] w (RdPost w s (rd d s.data.toList))
 | d, s, x, w, hd, hs, hx, hx' => by
  by_cases h0 : s.data.toList.takeWhile atomB = []
  · cases d with
    | zero => exact readExpr_none 0 s x w hs hx hx' h0 (fun _ _ _ => .inl rfl)
    | succ d =>
     by_cases hno : ∃ r, s.data.toList = 40 :: r
     · obtain ⟨r, hl⟩ := hno
       refine readExpr_list d hd s x w hs hx hx' r hl (fun s x w h1 h2 h3 => readExpr_any d s x w (by omega) h1 h2 h3) _ ?_
       rw [hl]
       conv => rhs; unfold rd
       rw [if_neg (by simp [show atomB 40 = false from by decide])]
       rfl
     · exact readExpr_none (d + 1) s x w hs hx hx' h0 (fun b r hl => .inr fun hb => hno ⟨r, by rw [hl, hb]⟩)
  · exact readExpr_atom d s x w hs h0
def EPost (w : World) (o : Option Tr) (e : Ending) (w' : World) : Prop :=
 Below w.heap.size w w' /\ match o with
  | some t => ∃ p, e = .returned (.pointer p) /\ EAt w' (fun _ => True) t p
  | none => e = .returned (.pointer none)
theorem nonempty_toList {s : ByteArray} (h : s.data.toList ≠ []) : s.toList.isEmpty = false /\ ¬ s.toList = [] := by
 rw [Lib.toList_data]
 exact ⟨by cases hl : s.data.toList with | nil => exact absurd hl h | cons => rfl, h⟩
theorem readText_any (s : ByteArray) (w : World) (hs : s.size <= 9223372036854775807) : Calls Tryz.prog 128 #[.string s] w (EPost w (rdText s.data.toList)) := by
 by_cases hb : s.size <= 8000
 · have ho : rdText s.data.toList = match rd 300 s.data.toList with | some (t, []) => some t | _ => none := by
    unfold rdText
    rw [if_neg (by rw [size_list]; omega)]
    first | done | rfl
   have hcall := readExpr_any 300 s 0 w (Nat.le_refl _) hb (by omega) (by omega)
   cases hrd : rd 300 s.data.toList with
   | none =>
    rw [hrd] at ho hcall
    replace ho : rdText s.data.toList = none := ho
    rw [ho]
    replace hcall : Calls Tryz.prog 164 #[.string s, .int .i64 0] w (fun e w1 => Below w.heap.size w w1 /\ e = .returned (.tuple #[.pointer none, .string s])) := hcall
    clear ho hrd
    go_enter Tryz.func128, Tryz.ntmps128
    go_wp2_with (go_at_call 164; refine hcall.mono ?_; rintro e w1 ⟨hb1, rfl⟩)
    all_goals go_ret
    all_goals exact ⟨hb1, rfl⟩
   | some tr =>
    obtain ⟨t, q⟩ := tr
    rw [hrd] at ho hcall
    replace hcall : Calls Tryz.prog 164 #[.string s, .int .i64 0] w (fun e w1 => Below w.heap.size w w1 /\ ∃ p, e = .returned (.tuple #[.pointer p, .string (St q)]) /\ EAt w1 (fun k => w.heap.size <= k) t p) := hcall
    clear hrd
    cases q with
    | nil =>
     replace ho : rdText s.data.toList = some t := ho
     rw [ho]
     clear ho
     go_enter Tryz.func128, Tryz.ntmps128
     go_wp2_with (go_at_call 164; refine hcall.mono ?_; rintro e w1 ⟨hb1, p, rfl, hp⟩)
     go_ret
     exact ⟨hb1, p, rfl, hp.weak fun _ _ => trivial⟩
    | cons b q =>
     replace ho : rdText s.data.toList = none := ho
     rw [ho]
     obtain ⟨Q, hQ⟩ : ∃ Q : ByteArray, Q = St (b :: q) := ⟨_, rfl⟩
     rw [<- hQ] at hcall
     obtain ⟨h1, h2⟩ := nonempty_toList (s := Q) (by rw [hQ]; simp)
     clear ho hQ
     go_enter Tryz.func128, Tryz.ntmps128
     go_wp2_with (go_at_call 164; refine hcall.mono ?_; rintro e w1 ⟨hb1, p, rfl, hp⟩)
     go_ret
     exact ⟨hb1, rfl⟩
 · have ho : rdText s.data.toList = none := by unfold rdText; rw [if_pos (by rw [size_list]; omega)]
   rw [ho]
   clear ho
   go_enter Tryz.func128, Tryz.ntmps128
   go_wp2_with fail
   go_ret
   exact ⟨Below.refl _ _, rfl⟩
end Go.Proofs.YtpokompplapkhaaGreatDoor
namespace Go.Proofs.YtpokompplapkhaaGreatDoor
set_option maxHeartbeats 4000000
set_option maxRecDepth 100000
open Go.RowKit
set_option linter.unusedVariables false
set_option linter.unusedSimpArgs false
def digitB (b : UInt8) : Bool := [48, 49, 50, 51, 52, 53, 54, 55, 56, 57].contains b
theorem digitB_iff (b : UInt8) : digitB b = true ↔ 48 <= b.toNat /\ b.toNat <= 57 := by
 unfold digitB
 constructor
 · intro h
   simp only [List.contains_eq_mem, List.mem_cons, List.mem_nil_iff, or_false, decide_eq_true_eq] at h
   rcases h with h | h | h | h | h | h | h | h | h | h <;> subst h <;> decide
 · intro h
   have hb : b = UInt8.ofNat b.toNat := by simp
   rw [hb]
   obtain ⟨h1, h2⟩ := h
   generalize b.toNat = n at *
   have : n = 48 \/ n = 49 \/ n = 50 \/ n = 51 \/ n = 52 \/ n = 53 \/ n = 54 \/ n = 55 \/ n = 56 \/ n = 57 := by omega
   rcases this with h | h | h | h | h | h | h | h | h | h <;> subst h <;> decide
theorem dropWhile_all {α : Type} {p : α -> Bool} {l : List α} : l.dropWhile p = [] ↔ l.all p = true := by
 induction l with
 | nil => simp
 | cons a r ih =>
  rw [List.dropWhile_cons, List.all_cons]
  cases h : p a <;> simp [ih]
theorem trim_nil (l : List UInt8) : Lib.trimS l [48, 49, 50, 51, 52, 53, 54, 55, 56, 57] = [] ↔ l.all digitB = true := by
 unfold Lib.trimS Lib.trimLeftS Lib.trimRightS
 show List.dropWhile digitB (List.dropWhile digitB l.reverse).reverse = [] ↔ _
 rw [dropWhile_all, List.all_reverse]
 constructor
 · intro h
   have h2 : (l.reverse.dropWhile digitB).dropWhile digitB = [] := dropWhile_all.2 h
   rw [<- List.all_reverse, <- dropWhile_all]
   cases hd : l.reverse.dropWhile digitB with
   | nil => rfl
   | cons a r =>
    rw [hd] at h
    have h3 : digitB a = true := by simp at h; exact h.1
    have h4 := List.head?_dropWhile_not digitB l.reverse
    rw [hd] at h4
    simp [h3] at h4
 · intro h
   have h1 : l.reverse.dropWhile digitB = [] := dropWhile_all.2 (by rw [List.all_reverse]; exact h)
   rw [h1]
   rfl
theorem trim_yes (s : ByteArray) (w : World) (hs : s.size <= 9223372036854775807) (h : s.data.toList.all digitB = true) :
 Calls Tryz.prog 162 #[.string s, .string ⟨#[48, 49, 50, 51, 52, 53, 54, 55, 56, 57]⟩] w fun e w' => e = .returned (.string ⟨#[]⟩) /\ Below w.heap.size w w' :=
 (Tryz.strings_Trim_digits s w hs).mono fun e w' ⟨he, hb⟩ => ⟨by rw [he, (trim_nil _).2 h], hb⟩
theorem trim_no (s : ByteArray) (w : World) (hs : s.size <= 9223372036854775807) (h : s.data.toList.all digitB = false) :
 Calls Tryz.prog 162 #[.string s, .string ⟨#[48, 49, 50, 51, 52, 53, 54, 55, 56, 57]⟩] w fun e w' => ∃ x : ByteArray, e = .returned (.string x) /\ x.toList.isEmpty = false /\ (¬ x.toList = []) /\ Below w.heap.size w w' :=
 (Tryz.strings_Trim_digits s w hs).mono fun e w' ⟨he, hb⟩ => by
  obtain ⟨h1, h2⟩ := nonempty_toList (s := ⟨(Lib.trimS s.data.toList [48, 49, 50, 51, 52, 53, 54, 55, 56, 57]).toArray⟩) (fun hn => by
   have := (trim_nil s.data.toList).1 (by simpa using hn)
   rw [h] at this
   cases this)
  exact ⟨_, he, h1, h2, hb⟩
def elemB : List UInt8 -> Bool
 | [e, a] => e == 101 && digitB a
 | [e, a, b] => e == 101 && (digitB a && digitB b) && a != 48
 | _ => false
theorem extract_tail {s : ByteArray} {b : UInt8} {r : List UInt8} (hl : s.data.toList = b :: r) : s.extract 1 s.size = St r := (cons_bytes hl).2.2.2.2
theorem isElement_short (s : ByteArray) (w : World) (h : s.size < 2 \/ 3 < s.size) :
 Calls Tryz.prog 165 #[.string s] w fun e w' => e = .returned (.bool false) /\ Below w.heap.size w w' := by
 rcases h with h | h
 · go_enter Tryz.func165, Tryz.ntmps165
   go_wp2_with fail
   go_ret
   exact ⟨rfl, Below.refl _ _⟩
 · go_enter Tryz.func165, Tryz.ntmps165
   go_wp2_with fail
   go_ret
   exact ⟨rfl, Below.refl _ _⟩
theorem isElement_other (s : ByteArray) (w : World) (e0 : UInt8) (r : List UInt8) (hl : s.data.toList = e0 :: r) (hr : 1 <= r.length) (hr2 : r.length <= 2) (h : e0 ≠ 101) :
 Calls Tryz.prog 165 #[.string s] w fun e w' => e = .returned (.bool false) /\ Below w.heap.size w w' := by
 obtain ⟨h1, h2, h3, h4, h5⟩ := cons_bytes hl
 replace h4 := h4 h2
 have h6 : ((e0.toNat : Int) != 101) = true := byte_bne h
 have h7 : 2 <= s.size := by omega
 have h8 : s.size <= 3 := by omega
 clear hl h h3 h5
 go_enter Tryz.func165, Tryz.ntmps165
 go_wp2_with fail
 go_ret
 exact ⟨rfl, Below.refl _ _⟩
theorem isElement_e (s : ByteArray) (w : World) (r : List UInt8) (hl : s.data.toList = 101 :: r) (hr : 1 <= r.length) (hr2 : r.length <= 2) :
 Calls Tryz.prog 165 #[.string s] w fun e w' => e = .returned (.bool (elemB (101 :: r))) /\ Below w.heap.size w w' := by
 obtain ⟨h1, h2, h3, h4, h5⟩ := cons_bytes hl
 replace h4 := h4 h2
 have h7 : 2 <= s.size := by omega
 have h8 : s.size <= 3 := by omega
 by_cases hd : r.all digitB = true
 · have hcall := fun w => trim_yes (St r) w (show r.length <= _ by omega) hd
   rcases r with _ | ⟨a, _ | ⟨b, _ | ⟨c, r⟩⟩⟩
   · simp at hr
   · have h9 : elemB [101, a] = true := by simpa [elemB] using hd
     have h10 : ((s.size : Int) == 2) = true := by simp [h3]
     rw [h9]
     clear hl h3 hd h9
     go_enter Tryz.func165, Tryz.ntmps165
     go_wp2_with (go_at_call 162; refine (hcall _).mono ?_; rintro e w' ⟨rfl, hb⟩)
     go_ret
     exact ⟨rfl, hb⟩
   · have h9 : elemB [101, a, b] = (a != 48) := by simp at hd; simp [elemB, hd]
     have h10 : ((s.size : Int) == 2) = false := by simp [h3]
     have h11 : ∀ h : 1 < s.size, s[1] = a := fun h => by
      have : s.data.toList[1]'(by rw [hl]; simp) = a := by simp [hl]
      exact this
     have h14 : 1 < s.size := by omega
     replace h11 := h11 h14
     rw [h9]
     clear hl h3 hd h9
     by_cases ha : a = 48
     · have h12 : ((a.toNat : Int) != 48) = false := byte_beq ha
       have h13 : (a != 48) = false := by simp [ha]
       rw [h13]
       clear ha h13
       go_enter Tryz.func165, Tryz.ntmps165
       go_wp2_with (go_at_call 162; refine (hcall _).mono ?_; rintro e w' ⟨rfl, hb⟩)
       go_ret
       exact ⟨rfl, hb⟩
     · have h12 : ((a.toNat : Int) != 48) = true := byte_bne ha
       have h13 : (a != 48) = true := by simp [ha]
       rw [h13]
       clear ha h13
       go_enter Tryz.func165, Tryz.ntmps165
       go_wp2_with (go_at_call 162; refine (hcall _).mono ?_; rintro e w' ⟨rfl, hb⟩)
       go_ret
       exact ⟨rfl, hb⟩
   · simp at hr2
 · have hd : r.all digitB = false := by simpa using hd
   have hcall := fun w => trim_no (St r) w (show r.length <= _ by omega) hd
   have h9 : elemB (101 :: r) = false := by
    rcases r with _ | ⟨a, _ | ⟨b, _ | ⟨c, r⟩⟩⟩
    · rfl
    · simpa [elemB] using hd
    · have : (digitB a && digitB b) = false := by simpa using hd
      simp only [elemB, this, Bool.and_false, Bool.false_and]
    · rfl
   rw [h9]
   clear hl h3 hd h9
   go_enter Tryz.func165, Tryz.ntmps165
   go_wp2_with (go_at_call 162; refine (hcall _).mono ?_; rintro e w' ⟨x, rfl, hx1, hx2, hb⟩)
   go_ret
   exact ⟨rfl, hb⟩
theorem isElement_any (s : ByteArray) (w : World) :
 Calls Tryz.prog 165 #[.string s] w fun e w' => e = .returned (.bool (elemB s.data.toList)) /\ Below w.heap.size w w' := by
 have hsz := size_list s
 match hl : s.data.toList with
 | [] => exact isElement_short s w (.inl (by rw [<- hsz, hl]; simp))
 | [a] => exact isElement_short s w (.inl (by rw [<- hsz, hl]; simp))
 | e0 :: a :: b :: c :: r => exact isElement_short s w (.inr (by rw [<- hsz, hl]; simp))
 | [e0, a] =>
  by_cases he : e0 = 101
  · subst he; exact isElement_e s w [a] hl (by simp) (by simp)
  · exact (isElement_other s w e0 [a] hl (by simp) (by simp) he).mono fun e w' ⟨h1, h2⟩ => ⟨by rw [h1]; simp [elemB, he], h2⟩
 | [e0, a, b] =>
  by_cases he : e0 = 101
  · subst he; exact isElement_e s w [a, b] hl (by simp) (by simp)
  · exact (isElement_other s w e0 [a, b] hl (by simp) (by simp) he).mono fun e w' ⟨h1, h2⟩ => ⟨by rw [h1]; simp [elemB, he], h2⟩
def namedB (letters : List UInt8) : List UInt8 -> Bool
 | c :: r => letters.contains c && decide (r.length <= 2) && r.all digitB
 | [] => false
abbrev paramB (l : List UInt8) : Bool := namedB [120, 121, 122] l
abbrev loopB (l : List UInt8) : Bool := namedB [116] l
theorem indexByte_low (l : List UInt8) (c : UInt8) : -1 <= Lib.indexByte l c := by
 induction l with
 | nil => simp [Lib.indexByte]
 | cons b r ih =>
  unfold Lib.indexByte
  split
  · omega
  · split <;> omega
theorem indexByte_contains (l : List UInt8) (c : UInt8) : decide (0 <= Lib.indexByte l c) = l.contains c := by
 induction l with
 | nil => simp [Lib.indexByte]
 | cons b r ih =>
  have hlow := indexByte_low r c
  have hu : Lib.indexByte (b :: r) c = if (b == c) = true then 0 else if (Lib.indexByte r c == -1) = true then -1 else Lib.indexByte r c + 1 := rfl
  rw [List.contains_cons, <- ih, hu]
  by_cases hb : b = c
  · subst hb; simp
  · rw [if_neg (by simpa using hb), beq_eq_false_iff_ne.2 (Ne.symm hb), Bool.false_or, decide_eq_decide]
    split
    · rename_i h; have h : Lib.indexByte r c = -1 := by simpa using h
      omega
    · rename_i h; have h : Lib.indexByte r c ≠ -1 := by simpa using h
      omega
theorem isNamed_any (s L : ByteArray) (w : World) (hs : s.size <= 9223372036854775807) :
 Calls Tryz.prog 108 #[.string s, .string L] w fun e w' => e = .returned (.bool (namedB L.data.toList s.data.toList)) /\ Below w.heap.size w w' := by
 have hsz := size_list s
 cases hl : s.data.toList with
 | nil =>
  have h0 : s.size < 1 := by rw [<- hsz, hl]; simp
  clear hs hl hsz
  go_enter Tryz.func108, Tryz.ntmps108
  go_wp2_with fail
  go_ret
  exact ⟨rfl, Below.refl _ _⟩
 | cons c r =>
  obtain ⟨h1, h2, h3, h4, h5⟩ := cons_bytes hl
  clear h1 h4
  by_cases hr : r.length <= 2
  · have h6 : 1 <= s.size := by omega
    have h7 : s.size <= 3 := by omega
    have h8 : s.extract 0 1 = ⟨#[c]⟩ := St_of (l := [c]) (by rw [Lib.extract_data, hl]; rfl)
    have hc := fun w => Tryz.strings_Contains_one L c w
    simp only [indexByte_contains] at hc
    cases hd : L.data.toList.contains c with
    | false =>
     have h9 : namedB L.data.toList (c :: r) = false := by simp only [namedB, hd, Bool.false_and]
     rw [h9]
     simp only [hd] at hc
     clear hs hl hsz h3 hd h5 h9
     go_enter Tryz.func108, Tryz.ntmps108
     go_wp2_with (go_at_call 161; refine (hc _).mono ?_; rintro e w' ⟨rfl, rfl⟩)
     go_ret
     exact ⟨rfl, Below.refl _ _⟩
    | true =>
     cases hdd : r.all digitB with
     | true =>
      have h9 : namedB L.data.toList (c :: r) = true := by simp only [namedB, hd, hdd, hr, decide_true, Bool.and_true]
      rw [h9]
      have hcall := fun w => trim_yes (St r) w (show r.length <= _ by omega) hdd
      simp only [hd] at hc
      clear hs hl hsz h3 hd hdd h9
      go_enter Tryz.func108, Tryz.ntmps108
      go_wp2_with (first | (go_at_call 161; refine (hc _).mono ?_; rintro e w' ⟨rfl, rfl⟩) | (go_at_call 162; refine (hcall _).mono ?_; rintro e w' ⟨rfl, hb⟩))
      go_ret
      exact ⟨rfl, hb⟩
     | false =>
      have h9 : namedB L.data.toList (c :: r) = false := by simp only [namedB, hdd, Bool.and_false]
      rw [h9]
      have hcall := fun w => trim_no (St r) w (show r.length <= _ by omega) hdd
      simp only [hd] at hc
      clear hs hl hsz h3 hd hdd h9
      go_enter Tryz.func108, Tryz.ntmps108
      go_wp2_with (first | (go_at_call 161; refine (hc _).mono ?_; rintro e w' ⟨rfl, rfl⟩) | (go_at_call 162; refine (hcall _).mono ?_; rintro e w' ⟨x, rfl, hx1, hx2, hb⟩))
      go_ret
      exact ⟨rfl, hb⟩
  · have h6 : 3 < s.size := by omega
    have h9 : namedB L.data.toList (c :: r) = false := by simp only [namedB, hr, decide_false, Bool.and_false, Bool.false_and]
    rw [h9]
    clear hs hl hsz h3 h9 h5
    go_enter Tryz.func108, Tryz.ntmps108
    go_wp2_with fail
    go_ret
    exact ⟨rfl, Below.refl _ _⟩
theorem isParameter_any (s : ByteArray) (w : World) (hs : s.size <= 9223372036854775807) :
 Calls Tryz.prog 52 #[.string s] w fun e w' => e = .returned (.bool (paramB s.data.toList)) /\ Below w.heap.size w w' := by
 have hc := isNamed_any s ⟨#[120, 121, 122]⟩ w hs
 clear hs
 go_enter Tryz.func52, Tryz.ntmps52
 go_wp2_with (go_at_call 108; refine hc.mono ?_; rintro e w' ⟨rfl, hb⟩)
 go_ret
 exact ⟨rfl, hb⟩
def headAtom : List Tr -> List UInt8
 | .mk s _ :: _ => s
 | [] => []
def callB (ps : List Tr) (word : List UInt8) (n : Nat) : Bool := ps.length == n && headAtom ps == word
theorem isCall_any (s : List UInt8) (ps : List Tr) (p : Option Addr) (word : ByteArray) (n : Nat) (w : World) {ok : Nat -> Prop} (h : EAt w ok (.mk s ps) p) (hn : 0 < n) (hn2 : n <= 3) :
 Calls Tryz.prog 166 #[.pointer p, .string word, .int .i64 n] w fun e w' => e = .returned (.bool (callB ps word.data.toList n)) /\ w = w' := by
 obtain ⟨g, A, c, rfl, _, hb, hc, hr⟩ := h
 have c0 : w.cell? ⟨g, 0, none⟩ = some (.string (St s)) := block_cell hb 0
 have c1 : w.cell? ⟨g, 1, none⟩ = some (.slice A ps.length c) := block_cell hb 1
 by_cases hl : ps.length = n
 · cases ps with
   | nil => simp at hl; omega
   | cons t ts =>
    obtain ⟨s1, ps1⟩ := t
    obtain ⟨b, o, p1, cur, rfl, _, hb1, hc1, ht, _⟩ := hr
    obtain ⟨g1, A1, cc1, rfl, _, hb2, _, _⟩ := ht
    have d0 : w.cell? ⟨b, o, none⟩ = some (.pointer (some ⟨g1, 0, none⟩)) := (block_cell hb1 o).trans hc1
    have d1 : w.cell? ⟨g1, 0, none⟩ = some (.string (St s1)) := block_cell hb2 0
    have h9 : callB (.mk s1 ps1 :: ts) word.data.toList n = (s1 == word.data.toList) := by simp only [callB, hl, headAtom, beq_self_eq_true, Bool.true_and]
    rw [h9]
    have hl2 : (((Tr.mk s1 ps1 :: ts).length : Int) == (n : Int)) = true := by rw [hl]; simp
    have hl3 : (0 : Int) < ((Tr.mk s1 ps1 :: ts).length : Int) := by rw [hl]; omega
    generalize (Tr.mk s1 ps1 :: ts).length = L at *
    clear hl hb hb1 hb2 hc1 hc h9
    go_enter Tryz.func166, Tryz.ntmps166
    go_wp2_with fail
    go_ret
    refine ⟨congrArg (fun b => Ending.returned (.bool b)) ?_, rfl⟩
    rw [Lib.toList_data]
 · have h9 : callB ps word.data.toList n = false := by simp only [callB, hl, beq_eq_false_iff_ne.2 hl, Bool.false_and]
   rw [h9]
   have hl2 : ((ps.length : Int) == (n : Int)) = false := by rw [beq_eq_false_iff_ne]; omega
   clear hl hb hr
   go_enter Tryz.func166, Tryz.ntmps166
   go_wp2_with fail
   go_ret
   exact ⟨rfl, rfl⟩
end Go.Proofs.YtpokompplapkhaaGreatDoor
namespace Go.Proofs.YtpokompplapkhaaGreatDoor
set_option maxHeartbeats 4000000
set_option maxRecDepth 100000
open Go.RowKit
set_option linter.unusedVariables false
set_option linter.unusedSimpArgs false
theorem l1Byte_any (b : UInt8) (w : World) : Calls Tryz.prog 205 #[.int .u8 b.toNat] w fun e w' => e = .returned (.bool (atomB b)) /\ w = w' := by
 rw [atomB_int]
 generalize (b.toNat : Int) = c
 go_enter Tryz.func205, Tryz.ntmps205
 go_wp2
 all_goals go_ret
 all_goals (refine ⟨congrArg (fun b => Ending.returned (.bool b)) ?_, rfl⟩; first | rfl | (rw [Bool.eq_iff_iff]; simp; done) | (rw [Bool.eq_iff_iff]; simp; omega))
def SPost (w : World) (s : ByteArray) (o : Option (Tr × List UInt8)) (e : Ending) (w' : World) : Prop :=
 Below w.heap.size w w' /\ match o with
  | some (t, r) => ∃ v, e = .returned (.tuple #[v, .int .i64 ((s.size : Int) - (r.length : Int))]) /\ TAt w' (fun k => w.heap.size <= k) t v
  | none => ∃ x A n c, e = .returned (.tuple #[.agg #[.string x, .slice A n c], .int .i64 (-1)])
theorem taken_at {s : ByteArray} {i k : Nat} (hi : i <= k) (hk : k <= s.size) (h1 : ∀ j (h : j < s.size), i <= j -> j < k -> atomB s[j] = true) (hx : ∀ h : k < s.size, atomB s[k] = false) :
 s.extract i k = St ((s.data.toList.drop i).takeWhile atomB) /\ ((s.data.toList.drop i).dropWhile atomB).length = s.size - k /\ ((s.data.toList.drop i).takeWhile atomB).length = k - i := by
 have hsz := size_list s
 have h := takeWhile_len_of (l := s.data.toList.drop i) (k := k - i) (by rw [List.length_drop]; omega) (fun j h hj => by
  rw [List.length_drop] at h
  rw [List.getElem_drop]
  exact h1 (i + j) (by omega) (by omega) (by omega)) (fun h => by
  rw [List.length_drop] at h
  rw [List.getElem_drop]
  have h2 := hx (by omega)
  have h3 : s.data.toList[i + (k - i)]'(by omega) = s[k]'(by omega) := by
   have : ∀ n (hn : n < s.data.toList.length), n = k -> s.data.toList[n] = s[k]'(by omega) := fun n hn he => by subst he; rfl
   exact this _ _ (by omega)
  rw [h3]
  exact h2)
 rw [h.1, h.2]
 refine ⟨St_of (by rw [Lib.extract_data]), ?_, ?_⟩
 · rw [List.length_drop, List.length_drop]; omega
 · rw [List.length_take, List.length_drop]; omega
theorem l1Read_atom (d : Nat) (s : ByteArray) (i : Nat) (x : Int) (w : World) (hs : s.size <= 8000) (hx : 0 <= x) (hx' : x <= 300) (hi : i < s.size) (h0 : s[i] ≠ 40)  :
 Calls Tryz.prog 163 #[.string s, .int .i64 i, .int .i64 x] w (SPost w s (rd d (s.data.toList.drop i))) := by
 have hrd : rd d (s.data.toList.drop i) = if (s.data.toList.drop i).takeWhile atomB = [] then none else some (.mk ((s.data.toList.drop i).takeWhile atomB) [], (s.data.toList.drop i).dropWhile atomB) := by
  unfold rd
  by_cases h : (s.data.toList.drop i).takeWhile atomB = []
  · rw [if_neg (by simp [h]), if_pos h]
    split
    · rename_i d b r hl
      have : b = s[i] := by
       have h1 : (s.data.toList.drop i)[0]? = some b := by rw [hl]; rfl
       rw [List.getElem?_drop, List.getElem?_eq_getElem (by rw [size_list]; omega)] at h1
       simp only [Option.some.injEq] at h1
       exact h1.symm
      rw [if_neg (by rw [this]; exact h0)]
    · rfl
  · rw [if_pos h, if_neg h]
 generalize rd d (s.data.toList.drop i) = o at *
 have HRD := Lib.hid hrd
 clear hrd
 have h6 : ((s[i].toNat : Int) != 40) = true := byte_bne h0
 have h7 : decide (300 < x) = false := by rw [decide_eq_false_iff_not]; omega
 have h8 : decide (s.size <= i) = false := by rw [decide_eq_false_iff_not]; omega
 clear h0
 go_enter Tryz.func163, Tryz.ntmps163
 go_wp2
 go_loop [1] (fun n => ∃ k : Nat, i <= k /\ k <= s.size /\ n = .int .i64 k /\ Hid (∀ j (h : j < s.size), i <= j -> j < k -> atomB s[j] = true)) (fun n => s.size - (intOf n).toNat)
 case atStart => exact ⟨i, Nat.le_refl _, by omega, rfl, fun _ _ h h' => by omega⟩
 case round =>
  obtain ⟨k, hik, hk, rfl, hall⟩ := hrel
  by_cases hat : ∃ h : k < s.size, atomB s[k] = true
  · obtain ⟨hlt, hb⟩ := hat
    have hat := l1Byte_any s[k]
    have Hb := Lib.hid hb
    rw [hb] at hat
    clear hb h6
    go_wp2_with (go_at_call 205; refine (hat _).mono ?_; rintro e w' ⟨rfl, rfl⟩)
    go_round
    case rel => exact ⟨k + 1, by omega, by omega, by go_num, fun j h hi hj => by rcases Nat.lt_succ_iff_lt_or_eq.1 hj with h1 | rfl; exact hall.out j h hi h1; exact Hb.out⟩
    case measure => simp [intOf]; omega
  · have hex : ∀ h : k < s.size, atomB s[k] = false := fun h => by
     cases hb : atomB s[k] with
     | true => exact absurd ⟨h, hb⟩ hat
     | false => rfl
    have HT := Lib.hid (taken_at hik hk hall.out hex)
    clear hat
    by_cases he : (s.data.toList.drop i).takeWhile atomB = []
    · have ho : o = none := by rw [HRD.out, if_pos he]
      subst ho
      have hx : s.extract i k = ⟨#[]⟩ := by rw [HT.out.1, he]
      clear he HRD
      by_cases hlt : k < s.size
      · have hb := hex hlt
        have hat := l1Byte_any s[k]
        rw [hb] at hat
        clear hb hex h6
        go_wp2_with (go_at_call 205; refine (hat _).mono ?_; rintro e w' ⟨rfl, rfl⟩)
        refine bodyPost_ret (v := .tuple #[.agg #[.string ⟨#[]⟩, .slice none 0 0], .int .i64 (-1)]) (by simp [results, Tryz.results163, go_sem]) rfl ?_
        exact ⟨up_alloc (up1 w _) _, ⟨#[]⟩, none, 0, 0, rfl⟩
      · clear hex h6
        go_wp2
        refine bodyPost_ret (v := .tuple #[.agg #[.string ⟨#[]⟩, .slice none 0 0], .int .i64 (-1)]) (by simp [results, Tryz.results163, go_sem]) rfl ?_
        exact ⟨up_alloc (up1 w _) _, ⟨#[]⟩, none, 0, 0, rfl⟩
    · obtain ⟨hx1, hx2⟩ := nonempty_toList (s := s.extract i k) (by rw [HT.out.1]; exact he)
      have ho : o = some (.mk ((s.data.toList.drop i).takeWhile atomB) [], (s.data.toList.drop i).dropWhile atomB) := by rw [HRD.out, if_neg he]
      subst ho
      clear he HRD
      by_cases hlt : k < s.size
      · have hb := hex hlt
        have hat := l1Byte_any s[k]
        rw [hb] at hat
        clear hb hex h6
        go_wp2_with (go_at_call 205; refine (hat _).mono ?_; rintro e w' ⟨rfl, rfl⟩)
        refine bodyPost_ret (v := .tuple #[.agg #[.string (s.extract i k), .slice none 0 0], .int .i64 k]) (by simp [results, Tryz.results163, go_sem]) rfl ?_
        have hl := HT.out.2.1
        refine ⟨up_alloc (up1 w _) _, _, ?_, none, 0, rfl, Nat.le_refl _, .nil _⟩
        rw [HT.out.1, show ((s.size : Int) - ((((s.data.toList.drop i).dropWhile atomB).length : Nat) : Int)) = k from by omega]
        rfl
      · clear hex h6
        go_wp2
        refine bodyPost_ret (v := .tuple #[.agg #[.string (s.extract i k), .slice none 0 0], .int .i64 k]) (by simp [results, Tryz.results163, go_sem]) rfl ?_
        have hl := HT.out.2.1
        refine ⟨up_alloc (up1 w _) _, _, ?_, none, 0, rfl, Nat.le_refl _, .nil _⟩
        rw [HT.out.1, show ((s.size : Int) - ((((s.data.toList.drop i).dropWhile atomB).length : Nat) : Int)) = k from by omega]
        rfl
inductive Trees (w : World) (ok : Nat -> Prop) : List Tr -> List Value -> Prop where
 | nil : Trees w ok [] []
 | cons (s : List UInt8) (ps : List Tr) (A : Option Addr) (c : Nat) (ts : List Tr) (cs : List Value) (hc : ps.length <= c) (hp : TRow w ok ps A) (hr : Trees w ok ts cs) : Trees w ok (.mk s ps :: ts) (.string (St s) :: .slice A ps.length c :: cs)
theorem Trees.move {w w1 : World} {ok ok' : Nat -> Prop} (hb : ∀ k, k < w.heap.size -> ok k -> ok' k /\ w1.heap[k]? = w.heap[k]?) {ts : List Tr} {cs : List Value} (h : Trees w ok ts cs) : Trees w1 ok' ts cs := by
 induction h with
 | nil => exact .nil
 | cons s ps A c ts cs hc hp _ ih => exact .cons s ps A c ts cs hc (hp.move hb) ih
theorem Trees.snoc {w : World} {ok : Nat -> Prop} {ts : List Tr} {cs : List Value} (h : Trees w ok ts cs) {s : List UInt8} {ps : List Tr} {A : Option Addr} {c : Nat} (hc : ps.length <= c) (hp : TRow w ok ps A) : Trees w ok (ts ++ [.mk s ps]) (cs ++ [.string (St s), .slice A ps.length c]) := by
 induction h with
 | nil => exact .cons s ps A c [] [] hc hp .nil
 | cons s' ps' A' c' ts cs hc' hp' _ ih => exact .cons s' ps' A' c' _ _ hc' hp' ih
theorem Trees.length {w : World} {ok : Nat -> Prop} {ts : List Tr} {cs : List Value} (h : Trees w ok ts cs) : cs.length = ts.length * 2 := by
 induction h with
 | nil => rfl
 | cons s ps A c ts cs hc hp _ ih => simp [ih]; omega
theorem Trees.row {w : World} {ok : Nat -> Prop} {b : Nat} {cur : Array Value} (hb : w.heap[b]? = some (.cells cur 59 (0, 0))) (hok : ok b) {ts : List Tr} {cs : List Value} (h : Trees w ok ts cs) :
 ∀ o, (∀ i u, cs[i]? = some u -> cur[o + i]? = some u) -> TRow w ok ts (some ⟨b, o, none⟩) := by
 induction h with
 | nil => exact fun _ _ => .nil _
 | cons s ps A c ts cs hc hp _ ih =>
  intro o hcur
  exact .cons b o s ps ts A c cur hok hb (hcur 0 _ rfl) (hcur 1 _ rfl) hc hp (ih (o + 2) (fun i u hu => by have := hcur (i + 2) u (by simpa using hu); rw [show o + 2 + i = o + (i + 2) from by omega]; exact this))
theorem Trees.own {w : World} {ok : Nat -> Prop} {base n : Nat} {v : Value} {ts : List Tr} {cs : List Value} (h : Trees w ok ts cs) (ho : w.ownsRow base 59 2 v n cs) (hn : n = ts.length) (hok : ∀ g, v.ownBlock = some g -> ok g) :
 ∃ A c, v = .slice A ts.length c /\ ts.length <= c /\ TRow w ok ts A := by
 subst hn
 rcases ho.2 with ⟨rfl, h0⟩ | ⟨g, cap, cur, rfl, hg, hh, hc, _, _, htk⟩
 · have : ts = [] := List.length_eq_zero_iff.1 h0
   subst this
   exact ⟨none, 0, rfl, Nat.le_refl _, .nil _⟩
 · refine ⟨_, cap, rfl, hc, Trees.row hh (hok g rfl) h 0 (fun i u hu => ?_)⟩
   have : (cur.toList.take (ts.length * 2))[i]? = some u := by rw [htk]; exact hu
   rw [List.getElem?_take] at this
   split at this
   · simpa using this
   · cases this
structure SRel (w : World) (acc : List Tr) (v : Value) (wr : World) : Prop where
 res : wr.heap[w.heap.size]? = some (.cells #[.string (St []), .slice none 0 0] 59 (0, 0))
 out : wr.heap[w.heap.size + 1]? = some (.cells #[.string (St []), v] 59 (0, 0))
 own : ∃ cs, wr.ownsRow (w.heap.size + 2) 59 2 v acc.length cs /\ Trees wr (fun k => w.heap.size + 1 < k /\ some k ≠ v.ownBlock) acc cs
 bel : Below w.heap.size w wr
theorem SRel.start (w : World) : SRel w [] (.slice none 0 0) ((w.alloc (.cells #[.string (St []), .slice none 0 0] 59)).alloc (.cells #[.string (St []), .slice none 0 0] 59)) :=
 ⟨block_alloc (block_new w _) _, by have := block_new (w.alloc (.cells #[.string (St []), .slice none 0 0] 59)) (.cells #[.string (St []), .slice none 0 0] 59); simpa using this, ⟨[], World.ownsRow_nil _ _ _ _, .nil⟩, up_alloc (up1 w _) _⟩
theorem SRel.up {w wr w1 : World} {acc : List Tr} {v : Value} (h : SRel w acc v wr) (hb : Below wr.heap.size wr w1) : SRel w acc v w1 := by
 obtain ⟨hres, hout, ⟨ps, ho, hp⟩, hbel⟩ := h
 exact ⟨block_up hb hres, block_up hb hout, ⟨ps, own_up ho hb, hp.move fun k hk ho => ⟨ho, hb.block k hk⟩⟩, below_then hbel hbel.size hb⟩
theorem own_form {w : World} {base n : Nat} {e : TypeId} {size : Nat} {v : Value} {xs : List Value} (h : w.ownsRow base e size v n xs) : ∃ A c, v = .slice A n c := by
 rcases h.2 with ⟨rfl, rfl⟩ | ⟨g, cap, cur, rfl, _⟩
 · exact ⟨_, _, rfl⟩
 · exact ⟨_, _, rfl⟩
theorem SRel.facts {w wr : World} {acc : List Tr} {v : Value} (h : SRel w acc v wr) :
 wr.cell? ⟨w.heap.size, 0, none⟩ = some (.string (St [])) /\ wr.cell? ⟨w.heap.size, 1, none⟩ = some (.slice none 0 0) /\ wr.cell? ⟨w.heap.size + 1, 0, none⟩ = some (.string (St [])) /\ wr.cell? ⟨w.heap.size + 1, 1, none⟩ = some v /\
 wr.frozen? ⟨w.heap.size, 0, none⟩ = false /\ wr.frozen? ⟨w.heap.size, 1, none⟩ = false /\ wr.frozen? ⟨w.heap.size + 1, 0, none⟩ = false /\ wr.frozen? ⟨w.heap.size + 1, 1, none⟩ = false /\ w.heap.size < wr.heap.size /\ w.heap.size + 1 < wr.heap.size :=
 ⟨block_cell h.res 0, block_cell h.res 1, block_cell h.out 0, block_cell h.out 1, block_free h.res 0, block_free h.res 1, block_free h.out 0, block_free h.out 1, lt_of_block h.res, lt_of_block h.out⟩
theorem SRel.step {w wr w2 : World} {acc : List Tr} {v : Value} (h : SRel w acc v wr) {s : List UInt8} {qs : List Tr} {A : Option Addr} {c g cap : Nat} {cs : List Value}
 (ho : wr.ownsRow (w.heap.size + 2) 59 2 v acc.length cs) (hcs : Trees wr (fun k => w.heap.size + 1 < k /\ some k ≠ v.ownBlock) acc cs) (hc : qs.length <= c)
 (ht : TRow wr (fun k => w.heap.size + 1 < k /\ some k ≠ v.ownBlock) qs A) (hown : w2.ownsRow (w.heap.size + 2) 59 2 (.slice (some ⟨g, 0, none⟩) (acc.length + 1) cap) (acc.length + 1) (cs ++ [.string (St s), .slice A qs.length c]))
 (hgrow : wr.grownBy w2 v.ownBlock) (hat : v.ownBlock = some g \/ g = wr.heap.size) :
 SRel w (acc ++ [.mk s qs]) (.slice (some ⟨g, 0, none⟩) (acc.length + 1) cap) (w2.setCell ⟨w.heap.size + 1, 1, none⟩ (.slice (some ⟨g, 0, none⟩) (acc.length + 1) cap)) /\
  w2.heap[w.heap.size + 1]? = some (.cells #[.string (St []), v] 59 (0, 0)) /\ w2.heap[w.heap.size]? = some (.cells #[.string (St []), .slice none 0 0] 59 (0, 0)) := by
 have hlt := lt_of_block h.out
 have hne : some (w.heap.size + 1) ≠ v.ownBlock := fun hv => by have := (ho.lt _ hv.symm).1; omega
 have hne0 : some w.heap.size ≠ v.ownBlock := fun hv => by have := (ho.lt _ hv.symm).1; omega
 have hb2 : ∀ k, k < wr.heap.size -> some k ≠ v.ownBlock -> w2.heap[k]? = wr.heap[k]? := fun k hk hk' => hgrow.block k hk hk'
 have hblk2 : w2.heap[w.heap.size + 1]? = some (.cells #[.string (St []), v] 59 (0, 0)) := (hb2 _ hlt hne).trans h.out
 have hmove : ∀ k, k < wr.heap.size -> (w.heap.size + 1 < k /\ some k ≠ v.ownBlock) -> (w.heap.size + 1 < k /\ some k ≠ (Value.slice (some ⟨g, 0, none⟩) (acc.length + 1) cap).ownBlock) /\ (w2.setCell ⟨w.heap.size + 1, 1, none⟩ (.slice (some ⟨g, 0, none⟩) (acc.length + 1) cap)).heap[k]? = wr.heap[k]? := fun k hk ⟨h1, h2⟩ => by
  refine ⟨⟨h1, fun hkg => ?_⟩, ?_⟩
  · have hkg : k = g := by simpa [Value.ownBlock] using hkg
    rcases hat with hat | hat
    · exact h2 (by rw [hat, hkg])
    · omega
  · rw [Below.heap_setCell _ _ _ _ (by show k ≠ w.heap.size + 1; omega)]
    exact hb2 k hk h2
 refine ⟨⟨?_, ?_, ⟨cs ++ [.string (St s), .slice A qs.length c], ?_, ?_⟩, ?_⟩, hblk2, (hb2 _ (by omega) hne0).trans h.res⟩
 · rw [Below.heap_setCell _ _ _ _ (by show w.heap.size ≠ w.heap.size + 1; omega), hb2 _ (by omega) hne0]
   exact h.res
 · simp only [World.setCell, Array.getElem?_modify, if_true, hblk2]
   rfl
 · rw [List.length_append]
   exact ownsRow_setCell_below hown (by show w.heap.size + 1 < w.heap.size + 2; omega) _
 · exact (hcs.move hmove).snoc hc (ht.move hmove)
 · exact Below.setCell (Below.grown h.bel hgrow h.bel.size (fun k hk => by have := (ho.lt _ hk).1; omega)) (by show w.heap.size <= w.heap.size + 1; omega) _
theorem SRel.done {w wr w3 : World} {acc : List Tr} {v : Value} (h : SRel w acc v wr) (hb : ∀ k, w.heap.size + 1 < k -> w3.heap[k]? = wr.heap[k]?) : TAt w3 (fun k => w.heap.size <= k) (.mk [] acc) (.agg #[.string (St []), v]) := by
 obtain ⟨cs, ho, hcs⟩ := h.own
 obtain ⟨A, c, rfl, hc, hr⟩ := Trees.own (ok := fun k => w.heap.size + 1 < k) (hcs.move fun k _ hk => ⟨hk.1, rfl⟩) ho rfl (fun g hg => by have := (ho.lt _ hg).1; omega)
 exact ⟨A, c, rfl, hc, hr.move fun k _ hk => ⟨by omega, hb k hk⟩⟩
theorem rdLoop_suffix {f : List UInt8 -> Option (Tr × List UInt8)} (hf : ∀ l t r, f l = some (t, r) -> r <:+ l) : ∀ (n : Nat) (acc : List Tr) (l : List UInt8) (t : Tr) (r : List UInt8), rdLoop f n acc l = some (t, r) -> r <:+ l
 | 0, _, _, _, _, h => by simp [rdLoop] at h
 | n + 1, acc, l, t, r, h => by
  unfold rdLoop at h
  split at h
  · rename_i t' b r' hfl
    have h1 := hf _ _ _ hfl
    have h2 : r' <:+ l := (List.suffix_cons b r').trans h1
    split at h
    · simp only [Option.some.injEq, Prod.mk.injEq] at h
      obtain ⟨_, rfl⟩ := h
      exact h2
    · split at h
      · exact (rdLoop_suffix hf n _ _ _ _ h).trans h2
      · simp at h
  · simp at h
theorem rd_suffix : ∀ (d : Nat) (l : List UInt8) (t : Tr) (r : List UInt8), rd d l = some (t, r) -> r <:+ l
 | 0, l, t, r, h => by
  unfold rd at h
  split at h
  · simp only [Option.some.injEq, Prod.mk.injEq] at h
    obtain ⟨_, rfl⟩ := h
    exact List.dropWhile_suffix _
  · simp at h
 | d + 1, l, t, r, h => by
  unfold rd at h
  split at h
  · simp only [Option.some.injEq, Prod.mk.injEq] at h
    obtain ⟨_, rfl⟩ := h
    exact List.dropWhile_suffix _
  · cases l with
    | nil => simp at h
    | cons b r' =>
     simp only at h
     split at h
     · exact (rdLoop_suffix (rd_suffix d) _ _ _ _ _ h).trans (List.suffix_cons b r')
     · simp at h
theorem suffix_drop {L r : List UInt8} {i : Nat} (h : r <:+ L.drop i) : r = L.drop (L.length - r.length) := by
 have h1 : r <:+ L := h.trans (List.drop_suffix i L)
 exact List.suffix_iff_eq_drop.1 h1
theorem Tryz.infoTree : (Tryz.prog.info? 59).map (fun i => (i.zero, i.size, i.bytes)) = some (some (.agg #[.string ⟨#[]⟩, .slice none 0 0]), 2, 40) := by kernel_rfl
theorem l1Read_end (s : ByteArray) (i : Nat) (x : Int) (w : World) (hx : 0 <= x) (h : 300 < x \/ s.size <= i) (hs : s.size <= 8000) :
 Calls Tryz.prog 163 #[.string s, .int .i64 i, .int .i64 x] w (SPost w s none) := by
 by_cases hx3 : 300 < x
 · have h7 : decide (300 < x) = true := by simpa using hx3
   clear h
   go_enter Tryz.func163, Tryz.ntmps163
   go_wp2
   refine bodyPost_ret (v := .tuple #[.agg #[.string ⟨#[]⟩, .slice none 0 0], .int .i64 (-1)]) (by simp [results, Tryz.results163, go_sem]) rfl ?_
   exact ⟨up_alloc (up1 w _) _, ⟨#[]⟩, none, 0, 0, rfl⟩
 · have h7 : decide (300 < x) = false := by simpa using hx3
   have hi : s.size <= i := by rcases h with h | h; exact absurd h hx3; exact h
   have h8 : decide (s.size <= i) = true := by simpa using hi
   clear h
   go_enter Tryz.func163, Tryz.ntmps163
   go_wp2
   refine bodyPost_ret (v := .tuple #[.agg #[.string ⟨#[]⟩, .slice none 0 0], .int .i64 (-1)]) (by simp [results, Tryz.results163, go_sem]) rfl ?_
   exact ⟨up_alloc (up1 w _) _, ⟨#[]⟩, none, 0, 0, rfl⟩
theorem l1Read_list (s : ByteArray) (i : Nat) (x : Int) (w : World) (hs : s.size <= 8000) (hx0 : 0 <= x) (hx : x <= 300) (hi : i < s.size) (h0 : s[i] = 40) (f : List UInt8 -> Option (Tr × List UInt8)) (hf : ∀ l t r, f l = some (t, r) -> r <:+ l /\ r.length < l.length)
 (ih : ∀ (i : Nat) (w : World), i <= s.size -> Calls Tryz.prog 163 #[.string s, .int .i64 i, .int .i64 (x + 1)] w (SPost w s (f (s.data.toList.drop i))))
 (o : Option (Tr × List UInt8)) (ho : Hid (rdLoop f (s.size + 1) [] (s.data.toList.drop (i + 1)) = o)) :
 Calls Tryz.prog 163 #[.string s, .int .i64 i, .int .i64 x] w (SPost w s o) := by
 have h6 : ((s[i].toNat : Int) != 40) = false := byte_beq h0
 have h7 : decide (300 < x) = false := by rw [decide_eq_false_iff_not]; omega
 have h8 : decide (s.size <= i) = false := by rw [decide_eq_false_iff_not]; omega
 clear h0
 obtain ⟨i0, hi0, hz0, hz1, hz2⟩ := info_parts Tryz.infoTree
 have IH := Lib.hid ih
 have HF := Lib.hid hf
 clear ih hf
 go_enter Tryz.func163, Tryz.ntmps163
 go_wp2
 go_loopg [1] (s.size - i) (fun n q wr => ∃ (acc : List Tr) (j : Nat) (v : Value), q = .int .i64 j /\ j < s.size /\ SRel w acc v wr /\ s.size - j <= n /\ acc.length <= j /\ (∃ m, s.size - j < m /\ Hid (rdLoop f m acc (s.data.toList.drop (j + 1)) = o)))
 case atStart => exact ⟨[], i, _, rfl, hi, SRel.start w, Nat.le_refl _, Nat.zero_le _, _, by omega, ho⟩
 case round =>
  obtain ⟨acc, j, v, rfl, hj, hR, hjn, haj, m, hm, HE⟩ := hrel
  clear ho h6 h7 h8
  have hcall : Calls Tryz.prog 163 #[.string s, .int .i64 ((j : Int) + 1), .int .i64 (x + 1)] wr (SPost wr s (f (s.data.toList.drop (j + 1)))) := IH.out (j + 1) wr (by omega)
  clear IH
  obtain ⟨m, rfl⟩ : ∃ m', m = m' + 1 := ⟨m - 1, by omega⟩
  have hE := HE.out
  clear HE
  unfold rdLoop at hE
  obtain ⟨Av, cv, rfl⟩ : ∃ A c, v = .slice A acc.length c := by obtain ⟨cs, ho, _⟩ := hR.own; exact own_form ho
  have HR := Lib.hid hR
  clear hR
  cases hrd : f (s.data.toList.drop (j + 1)) with
  | none =>
   rw [hrd] at hE hcall
   replace hE : none = o := hE
   subst hE
   replace hcall : Calls Tryz.prog 163 #[.string s, .int .i64 ((j : Int) + 1), .int .i64 (x + 1)] wr (fun e w1 => Below wr.heap.size wr w1 /\ ∃ x A n c, e = .returned (.tuple #[.agg #[.string x, .slice A n c], .int .i64 (-1)])) := hcall
   clear hrd
   go_wp2_with (go_at_call 163; refine hcall.mono ?_; rintro e w1 ⟨hb1, y, A, n, c, rfl⟩; have HR1 := Lib.hid (HR.out.up hb1); obtain ⟨c0, c1, c2, c3, f0, f1, f2, f3, l0, l1⟩ := HR1.out.facts; clear hb1)
   refine bodyPost_ret (v := .tuple #[.agg #[.string (St []), .slice Av acc.length cv], .int .i64 (-1)]) (by simp [results, Tryz.results163, go_sem, c0, c1, c2, c3, l0, l1]) rfl ?_
   exact ⟨by repeat (first | exact HR1.out.bel | refine up_alloc ?_ _ | refine set0 ?_ (by omega)), _, _, _, _, rfl⟩
  | some tr =>
   obtain ⟨⟨q0, qs⟩, q⟩ := tr
   rw [hrd] at hE hcall
   obtain ⟨hsuf, hlen⟩ := HF.out _ _ _ hrd
   clear hrd
   have hq := suffix_drop hsuf
   rw [size_list] at hq
   rw [List.length_drop, size_list] at hlen
   obtain ⟨cs, ho, hcs⟩ := HR.out.own
   have HO := Lib.hid ho
   have HCS := Lib.hid hcs
   have hsz0 := HR.out.facts.2.2.2.2.2.2.2.2.2
   clear ho hcs hsuf
   replace hcall : Calls Tryz.prog 163 #[.string s, .int .i64 ((j : Int) + 1), .int .i64 (x + 1)] wr (fun e w1 => Below wr.heap.size wr w1 /\ ∃ A c, e = .returned (.tuple #[.agg #[.string (St q0), .slice A qs.length c], .int .i64 ((s.size : Int) - (q.length : Int))]) /\ qs.length <= c /\ TRow w1 (fun k => wr.heap.size <= k) qs A) := hcall.mono fun e w1 h => by
    obtain ⟨hb, v, he, A, c, rfl, hc, hr⟩ := h
    exact ⟨hb, A, c, he, hc, hr⟩
   cases q with
   | nil =>
    replace hE : none = o := hE
    subst hE
    have hn : ((s.size : Int) - ((([] : List UInt8).length : Nat) : Int)) = (s.size : Int) := by simp
    rw [hn] at hcall
    have k1 : decide ((s.size : Int) < 0) = false := by rw [decide_eq_false_iff_not]; omega
    clear hn hq
    go_wp2_with (go_at_call 163; refine hcall.mono ?_; rintro e w1 ⟨hb1, A, c, rfl, hcq, hp⟩; have HR1 := Lib.hid (HR.out.up hb1); obtain ⟨c0, c1, c2, c3, f0, f1, f2, f3, l0, l1⟩ := HR1.out.facts; clear hb1)
    refine bodyPost_ret (v := .tuple #[.agg #[.string (St []), .slice Av acc.length cv], .int .i64 (-1)]) (by simp [results, Tryz.results163, go_sem, c0, c1, c2, c3, l0, l1]) rfl ?_
    exact ⟨by repeat (first | exact HR1.out.bel | refine up_alloc ?_ _ | refine set0 ?_ (by omega)), _, _, _, _, rfl⟩
   | cons b q =>
    simp only [List.length_cons] at hq hlen
    obtain ⟨J, hJ⟩ : ∃ J, J = s.size - (q.length + 1) := ⟨_, rfl⟩
    have hJ1 : J < s.size := by omega
    have hJ2 : j < J := by omega
    rw [<- hJ] at hq
    have hJb : s[J] = b := by
     have h1 : (s.data.toList.drop J)[0]? = some b := by rw [<- hq]; rfl
     rw [List.getElem?_drop, List.getElem?_eq_getElem (by rw [size_list]; omega)] at h1
     simp only [Option.some.injEq] at h1
     exact h1
    have hJq : s.data.toList.drop (J + 1) = q := by
     have h1 : (s.data.toList.drop J).drop 1 = q := by rw [<- hq]; rfl
     rw [List.drop_drop] at h1
     exact h1
    have HJQ := Lib.hid hJq
    have hn : ((s.size : Int) - (((b :: q).length : Nat) : Int)) = (J : Int) := by simp only [List.length_cons]; omega
    rw [hn] at hcall
    have HJ := Lib.hid hJ
    clear hn hq hJq hJ hlen
    have k1 : decide ((J : Int) < 0) = false := by rw [decide_eq_false_iff_not]; omega
    have k2 : decide (s.size <= J) = false := by rw [decide_eq_false_iff_not]; omega
    replace hE : (if b = 41 then some (Tr.mk [] (acc ++ [.mk q0 qs]), q) else if b = 32 then rdLoop f m (acc ++ [.mk q0 qs]) q else none) = o := hE
    by_cases hb41 : b = 41
    · rw [if_pos hb41] at hE
      subst hE
      have hbt : ((b.toNat : Int) == 41) = true := byte_eq hb41
      clear hb41
      go_wp2_with (first | (go_at_call 163; refine hcall.mono ?_; rintro e w1 ⟨hb1, A, c, rfl, hcq, hp⟩; have HR1 := Lib.hid (HR.out.up hb1); obtain ⟨c0, c1, c2, c3, f0, f1, f2, f3, l0, l1⟩ := HR1.out.facts; have HP : Hid (TRow w1 (fun k => wr.heap.size <= k) qs A) := hp; have HB1 := Lib.hid hb1; clear hb1 hp) | (at_builtin; refine wpList_append_lies _ rfl _ _ 57 rfl (w.heap.size + 2) 59 i0 _ 2 40 Tryz.underlying57 hi0 hz0 hz1 hz2 rfl (by decide) (.slice Av acc.length cv) acc.length cs rfl (own_up HO.out (up_trans HB1.out (up_alloc (up1 _ _) _))) ⟨w1.heap.size + 1, 0, none⟩ 1 1 [.string (St q0), .slice A qs.length c] rfl rfl (World.news_of_block (cs := #[.string (St q0), .slice A qs.length c]) (t := 59) (fr := (0, 0)) (by have := block_new (w1.alloc (.cells #[.string (St q0), .slice A qs.length c] 59)) (.cells #[.string (St q0), .slice A qs.length c] 59); simpa using this)) (by simp [Value.oneCell']) (by decide) (by unfold maxLen; omega) (by omega) (by simp; omega) (w1.heap.size + 2) (by simp) ?_; intro g' cap w2 hown hgrow hat hlt; have HS := Lib.hid (SRel.step (HR1.out.up (up_alloc (up1 _ _) _)) (own_up HO.out (up_trans HB1.out (up_alloc (up1 _ _) _))) (HCS.out.move fun k hk ho => ⟨ho, (up_trans HB1.out (up_alloc (up1 _ _) _)).block k hk⟩) hcq (HP.out.move fun k hk hk' => ⟨⟨by omega, fun hv => by have := (HO.out.lt _ hv.symm).2; omega⟩, (up_alloc (up1 _ _) _ : Below _ _ _).block k hk⟩) hown hgrow (by simpa using hat)); have d1 : w2.cell? ⟨w.heap.size + 1, 1, none⟩ = some (.slice Av acc.length cv) := block_cell HS.out.2.1 1; have d0 : w2.cell? ⟨w.heap.size + 1, 0, none⟩ = some (.string (St [])) := block_cell HS.out.2.1 0; have d2 := block_free HS.out.2.1 1; have e0 : w2.cell? ⟨w.heap.size, 0, none⟩ = some (.string (St [])) := block_cell HS.out.2.2 0; have e1 : w2.cell? ⟨w.heap.size, 1, none⟩ = some (.slice none 0 0) := block_cell HS.out.2.2 1; have e2 := block_free HS.out.2.2 0; have e3 := block_free HS.out.2.2 1; clear hown hgrow hat hlt))
      refine bodyPost_ret (v := .tuple #[.agg #[.string (St []), .slice (some ⟨g', 0, none⟩) (acc.length + 1) cap], .int .i64 ((J : Int) + 1)]) (by simp [results, Tryz.results163, go_sem, d0, d1, e0, e1]) rfl ?_
      refine ⟨?_, _, ?_, HS.out.1.done (fun k hk => by rw [Below.heap_setCell _ ⟨w.heap.size, 1, none⟩ _ k (by show k ≠ w.heap.size; omega), Below.heap_setCell _ ⟨w.heap.size, 0, none⟩ _ k (by show k ≠ w.heap.size; omega)])⟩
      · repeat (first | exact HS.out.1.bel | refine set0 ?_ (by omega))
      · rw [show ((s.size : Int) - (q.length : Int)) = (J : Int) + 1 from by have := HJ.out; omega]
    · rw [if_neg hb41] at hE
      have hbt : ((b.toNat : Int) == 41) = false := byte_ne hb41
      clear hb41
      by_cases hb32 : b = 32
      · rw [if_pos hb32] at hE
        have HE := Lib.hid hE
        clear hE
        have hbu : ((b.toNat : Int) != 32) = false := byte_beq hb32
        clear hb32
        go_wp2_with (first | (go_at_call 163; refine hcall.mono ?_; rintro e w1 ⟨hb1, A, c, rfl, hcq, hp⟩; have HR1 := Lib.hid (HR.out.up hb1); obtain ⟨c0, c1, c2, c3, f0, f1, f2, f3, l0, l1⟩ := HR1.out.facts; have HP : Hid (TRow w1 (fun k => wr.heap.size <= k) qs A) := hp; have HB1 := Lib.hid hb1; clear hb1 hp) | (at_builtin; refine wpList_append_lies _ rfl _ _ 57 rfl (w.heap.size + 2) 59 i0 _ 2 40 Tryz.underlying57 hi0 hz0 hz1 hz2 rfl (by decide) (.slice Av acc.length cv) acc.length cs rfl (own_up HO.out (up_trans HB1.out (up_alloc (up1 _ _) _))) ⟨w1.heap.size + 1, 0, none⟩ 1 1 [.string (St q0), .slice A qs.length c] rfl rfl (World.news_of_block (cs := #[.string (St q0), .slice A qs.length c]) (t := 59) (fr := (0, 0)) (by have := block_new (w1.alloc (.cells #[.string (St q0), .slice A qs.length c] 59)) (.cells #[.string (St q0), .slice A qs.length c] 59); simpa using this)) (by simp [Value.oneCell']) (by decide) (by unfold maxLen; omega) (by omega) (by simp; omega) (w1.heap.size + 2) (by simp) ?_; intro g' cap w2 hown hgrow hat hlt; have HS := Lib.hid (SRel.step (HR1.out.up (up_alloc (up1 _ _) _)) (own_up HO.out (up_trans HB1.out (up_alloc (up1 _ _) _))) (HCS.out.move fun k hk ho => ⟨ho, (up_trans HB1.out (up_alloc (up1 _ _) _)).block k hk⟩) hcq (HP.out.move fun k hk hk' => ⟨⟨by omega, fun hv => by have := (HO.out.lt _ hv.symm).2; omega⟩, (up_alloc (up1 _ _) _ : Below _ _ _).block k hk⟩) hown hgrow (by simpa using hat)); have d1 : w2.cell? ⟨w.heap.size + 1, 1, none⟩ = some (.slice Av acc.length cv) := block_cell HS.out.2.1 1; have d0 : w2.cell? ⟨w.heap.size + 1, 0, none⟩ = some (.string (St [])) := block_cell HS.out.2.1 0; have d2 := block_free HS.out.2.1 1; have e0 : w2.cell? ⟨w.heap.size, 0, none⟩ = some (.string (St [])) := block_cell HS.out.2.2 0; have e1 : w2.cell? ⟨w.heap.size, 1, none⟩ = some (.slice none 0 0) := block_cell HS.out.2.2 1; have e2 := block_free HS.out.2.2 0; have e3 := block_free HS.out.2.2 1; clear hown hgrow hat hlt))
        go_roundg (s.size - J)
        case measure => omega
        case rel => exact ⟨acc ++ [.mk q0 qs], J, _, rfl, hJ1, HS.out.1, Nat.le_refl _, by simp; omega, m, by omega, by rw [HJQ.out]; exact HE.out⟩
      · rw [if_neg hb32] at hE
        subst hE
        have hbu : ((b.toNat : Int) != 32) = true := byte_bne hb32
        clear hb32
        go_wp2_with (first | (go_at_call 163; refine hcall.mono ?_; rintro e w1 ⟨hb1, A, c, rfl, hcq, hp⟩; have HR1 := Lib.hid (HR.out.up hb1); obtain ⟨c0, c1, c2, c3, f0, f1, f2, f3, l0, l1⟩ := HR1.out.facts; have HP : Hid (TRow w1 (fun k => wr.heap.size <= k) qs A) := hp; have HB1 := Lib.hid hb1; clear hb1 hp) | (at_builtin; refine wpList_append_lies _ rfl _ _ 57 rfl (w.heap.size + 2) 59 i0 _ 2 40 Tryz.underlying57 hi0 hz0 hz1 hz2 rfl (by decide) (.slice Av acc.length cv) acc.length cs rfl (own_up HO.out (up_trans HB1.out (up_alloc (up1 _ _) _))) ⟨w1.heap.size + 1, 0, none⟩ 1 1 [.string (St q0), .slice A qs.length c] rfl rfl (World.news_of_block (cs := #[.string (St q0), .slice A qs.length c]) (t := 59) (fr := (0, 0)) (by have := block_new (w1.alloc (.cells #[.string (St q0), .slice A qs.length c] 59)) (.cells #[.string (St q0), .slice A qs.length c] 59); simpa using this)) (by simp [Value.oneCell']) (by decide) (by unfold maxLen; omega) (by omega) (by simp; omega) (w1.heap.size + 2) (by simp) ?_; intro g' cap w2 hown hgrow hat hlt; have HS := Lib.hid (SRel.step (HR1.out.up (up_alloc (up1 _ _) _)) (own_up HO.out (up_trans HB1.out (up_alloc (up1 _ _) _))) (HCS.out.move fun k hk ho => ⟨ho, (up_trans HB1.out (up_alloc (up1 _ _) _)).block k hk⟩) hcq (HP.out.move fun k hk hk' => ⟨⟨by omega, fun hv => by have := (HO.out.lt _ hv.symm).2; omega⟩, (up_alloc (up1 _ _) _ : Below _ _ _).block k hk⟩) hown hgrow (by simpa using hat)); have d1 : w2.cell? ⟨w.heap.size + 1, 1, none⟩ = some (.slice Av acc.length cv) := block_cell HS.out.2.1 1; have d0 : w2.cell? ⟨w.heap.size + 1, 0, none⟩ = some (.string (St [])) := block_cell HS.out.2.1 0; have d2 := block_free HS.out.2.1 1; have e0 : w2.cell? ⟨w.heap.size, 0, none⟩ = some (.string (St [])) := block_cell HS.out.2.2 0; have e1 : w2.cell? ⟨w.heap.size, 1, none⟩ = some (.slice none 0 0) := block_cell HS.out.2.2 1; have e2 := block_free HS.out.2.2 0; have e3 := block_free HS.out.2.2 1; clear hown hgrow hat hlt))
        refine bodyPost_ret (v := .tuple #[.agg #[.string (St []), .slice (some ⟨g', 0, none⟩) (acc.length + 1) cap], .int .i64 (-1)]) (by simp [results, Tryz.results163, go_sem, d0, d1, e0, e1]) rfl ?_
        exact ⟨by repeat (first | exact HS.out.1.bel | refine set0 ?_ (by omega)), _, _, _, _, rfl⟩
theorem rdLoop_fuel {f : List UInt8 -> Option (Tr × List UInt8)} (hf : ∀ l t r, f l = some (t, r) -> r.length < l.length) : ∀ (n m : Nat) (acc : List Tr) (l : List UInt8), l.length < n -> l.length < m -> rdLoop f n acc l = rdLoop f m acc l
 | 0, _, _, _, h, _ => absurd h (Nat.not_lt_zero _)
 | _ + 1, 0, _, _, _, h => absurd h (Nat.not_lt_zero _)
 | n + 1, m + 1, acc, l, hn, hm => by
  unfold rdLoop
  split
  · rename_i t b r hfl
    have := hf _ _ _ hfl
    simp only [List.length_cons] at this
    rw [rdLoop_fuel hf n m _ r (by omega) (by omega)]
  · rfl
theorem l1Read_any : ∀ (d : Nat) (s : ByteArray) (i : Nat) (x : Int) (w : World), d <= 300 -> s.size <= 8000 -> x + d <= 300 -> 300 <= x + d -> i <= s.size ->
 Calls Tryz.prog 163 #[.string s, .int .i64 i, .int .i64 x] w (SPost w s (rd d (s.data.toList.drop i)))
 | d, s, i, x, w, hd, hs, hx, hx', hi => by
  by_cases hlt : i < s.size
  · by_cases h40 : s[i] = 40
    · have hl : s.data.toList.drop i = 40 :: s.data.toList.drop (i + 1) := by
       rw [List.drop_eq_getElem_cons (by rw [size_list]; omega)]
       exact congrArg (fun b => b :: s.data.toList.drop (i + 1)) h40
      have hlen : (s.data.toList.drop (i + 1)).length = s.size - (i + 1) := by rw [List.length_drop, size_list]
      cases d with
      | zero =>
       refine l1Read_list s i x w hs (by omega) (by omega) hlt h40 (fun _ => none) (fun _ _ _ h => by simp at h) (fun i w hi => l1Read_end s i (x + 1) w (by omega) (.inl (by omega)) hs) _ ?_
       rw [hl]
       unfold rd rdLoop
       rfl
      | succ d =>
       refine l1Read_list s i x w hs (by omega) (by omega) hlt h40 (rd d) (fun l t r h => ⟨rd_suffix _ _ _ _ h, rd_len _ _ _ _ h⟩) (fun i w hi => l1Read_any d s i (x + 1) w (by omega) hs (by omega) (by omega) hi) _ ?_
       rw [hl]
       have hrd : ∀ n m acc (l : List UInt8), l.length < n -> l.length < m -> rdLoop (rd d) n acc l = rdLoop (rd d) m acc l := rdLoop_fuel (rd_len d)
       conv => rhs; unfold rd
       rw [if_neg (by simp [show atomB 40 = false from by decide])]
       exact hrd _ _ _ _ (by omega) (by omega)
    · exact l1Read_atom d s i x w hs (by omega) (by omega) hlt h40
  · have he : s.data.toList.drop i = [] := List.drop_eq_nil_of_le (by rw [size_list]; omega)
    have hno : rd d [] = none := by unfold rd; rw [if_neg (by simp)]; split <;> simp_all
    rw [he, hno]
    exact l1Read_end s i x w (by omega) (.inr (by omega)) hs
end Go.Proofs.YtpokompplapkhaaGreatDoor

