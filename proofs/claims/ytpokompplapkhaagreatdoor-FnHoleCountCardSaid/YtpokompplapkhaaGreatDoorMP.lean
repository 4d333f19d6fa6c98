/- The program's canon: the names that its closure gives. The program's put and opened. The program's canon and told; TypeCanon. -/
import Derived.Test.YtpokompplapkhaaGreatDoorMH
import Derived.Test.YtpokompplapkhaaGreatDoorMF
import Derived.Test.YtpokompplapkhaaGreatDoorTk
import Derived.Test.YtpokompplapkhaaGreatDoorMI
import Derived.Lib.AppendIntMem
import Derived.Lib.LaidTab
import Derived.Test.YtpokompplapkhaaGreatDoorME
import Derived.Laws.EntriesVeiled
namespace Go.Proofs.YtpokompplapkhaaGreatDoor
set_option maxHeartbeats 8000000
set_option maxRecDepth 100000
open Go.RowKit
set_option linter.unusedVariables false
set_option linter.unusedSimpArgs false
structure CN (w : World) (B bw bf bn : Nat) (F : Option Addr) (cF : Nat) (fs : List (List UInt8)) (k : Nat) : Prop where
 hw : w.heap[bw]? = some (.cells #[.func (.func 176) #[] #[.pointer (some ⟨bw, 0, none⟩), .pointer (some ⟨bf, 0, none⟩), .pointer (some ⟨bn, 0, none⟩)]] 210 (0, 0))
 hf : w.heap[bf]? = some (.cells #[.slice F fs.length cF] 38 (0, 0))
 hn : w.heap[bn]? = some (.cells #[.int .i64 k] 3 (0, 0))
 hF : SFar w F bn fs
 tab : TabB B w
 le : B <= bn
 ne1 : bw ≠ bn
 ne2 : bf ≠ bn
theorem CN.grown {w w1 : World} {B bw bf bn : Nat} {F : Option Addr} {cF : Nat} {fs : List (List UInt8)} {k k1 : Nat} (h : CN w B bw bf bn F cF fs k) (hg : w.grownBy w1 (some bn)) (hn : w1.heap[bn]? = some (.cells #[.int .i64 k1] 3 (0, 0))) : CN w1 B bw bf bn F cF fs k1 where
 hw := (hg.block bw (lt_of_block h.hw) (by simp; exact h.ne1)).trans h.hw
 hf := (hg.block bf (lt_of_block h.hf) (by simp; exact h.ne2)).trans h.hf
 hn := hn
 hF := h.hF.grown hg (.inl rfl)
 tab := h.tab.below ((Below.refl B w).grown hg (by have := lt_of_block h.hn; have := h.le; omega) (fun k hk => by cases hk; exact h.le))
 le := h.le
 ne1 := h.ne1
 ne2 := h.ne2
theorem CN.up {w w1 : World} {B bw bf bn : Nat} {F : Option Addr} {cF : Nat} {fs : List (List UInt8)} {k : Nat} (h : CN w B bw bf bn F cF fs k) (hb : Below w.heap.size w w1) : CN w1 B bw bf bn F cF fs k :=
 h.grown (below_grow hb) (block_up hb h.hn)
theorem CN.keeps {w w1 : World} {B bw bf bn : Nat} {F : Option Addr} {cF : Nat} {fs : List (List UInt8)} {k : Nat} (h : CN w B bw bf bn F cF fs k) (hg : w.grownBy w1 (some bn)) : Keeps 124 w w1 := fun j cs fr hj => by
 rw [hg.block j (lt_of_block hj) (by
  simp
  rintro rfl
  rw [h.hn] at hj
  simp at hj), hj]
theorem CN.next {w : World} {B bw bf bn : Nat} {F : Option Addr} {cF : Nat} {fs : List (List UInt8)} {k : Nat} (h : CN w B bw bf bn F cF fs k) : CN (w.setCell ⟨bn, 0, none⟩ (.int .i64 ((k : Int) + 1))) B bw bf bn F cF fs (k + 1) /\ w.grownBy (w.setCell ⟨bn, 0, none⟩ (.int .i64 ((k : Int) + 1))) (some bn) := by
 have hg : w.grownBy (w.setCell ⟨bn, 0, none⟩ (.int .i64 ((k : Int) + 1))) (some bn) := ⟨rfl, rfl, rfl, by simp [World.setCell], fun j hj hne => Below.heap_setCell w ⟨bn, 0, none⟩ _ j (by simpa using hne)⟩
 refine ⟨h.grown hg ?_, hg⟩
 exact block_set h.hn 0 _
end Go.Proofs.YtpokompplapkhaaGreatDoor
namespace Go.Proofs.YtpokompplapkhaaGreatDoor
set_option maxHeartbeats 8000000
set_option maxRecDepth 100000
open Go.RowKit
set_option linter.unusedVariables false
set_option linter.unusedSimpArgs false
end Go.Proofs.YtpokompplapkhaaGreatDoor
namespace Go.Proofs.YtpokompplapkhaaGreatDoor
set_option maxHeartbeats 8000000
set_option maxRecDepth 100000
open Go.RowKit
set_option linter.unusedVariables false
set_option linter.unusedSimpArgs false
end Go.Proofs.YtpokompplapkhaaGreatDoor

