/- The program's canon: the names that its closure gives. Canonical texts, read back: the plain law. The program's put and opened. Names of put and opened types, and emptiness: the plain law. The program's canon and told; TypeCanon. -/
import Derived.Test.YtofbhdgccijbgaaGreatDoorMH
import Derived.Test.YtofbhdgccijbgaaGreatDoorMF
import Derived.Lib.AppendIntMem
import Derived.Lib.LaidTab
import Derived.Test.YtofbhdgccijbgaaGreatDoorME
import Derived.Laws.EntriesVeiled
namespace Go.Proofs.YtofbhdgccijbgaaGreatDoor
open Go.RowKit
set_option linter.unusedVariables false
set_option linter.unusedSimpArgs false
theorem decDigits_decL (n : Nat) : Lib.decDigits n = decL n := by
  induction n using Nat.strongRecOn with
  | ind n ih =>
    rw [Lib.decDigits, decL]
    by_cases h : n < 10
    · rw [dif_pos h, if_pos h]
    · rw [dif_neg h, if_neg h, ih (n / 10) (by omega)]
theorem itoa_decL (n : Nat) : Lib.itoa (n : Int) = decL n := by
  unfold Lib.itoa
  rw [if_neg (by omega), ← decDigits_decL]
  rfl
abbrev TabB (B : Nat) (w : World) : Prop := Lib.TabBelow Tryz.prog B w "internal/strconv.uint64pow10" .u64 Lib.pow10Tab
theorem TabB.below {B : Nat} {w w1 : World} (h : TabB B w) (hb : Below B w w1) : TabB B w1 := fun w2 hb2 => h w2 (hb.trans hb2)
theorem itoa_any (k B : Nat) (hk : k ≤ 100000000) (w : World) (h : TabB B w) :
    Calls Tryz.prog 58 #[.int .i64 k] w fun e w' => e = .returned (.string (St (decL k))) ∧ Below w.heap.size w w' := by
  refine (Tryz.strconv_Itoa k (by omega) (by omega) w h.here).mono ?_
  rintro e w' ⟨he, n, os, rfl⟩
  rw [itoa_decL] at he
  refine ⟨he, rfl, rfl, rfl, ?_, fun j hj => ?_⟩
  · show w.heap.size ≤ (w.heap ++ os).size
    simp
  · show (w.heap ++ os)[j]? = w.heap[j]?
    rw [Array.getElem?_append_left hj]
/-- The world in which canon's closure runs: its own variable, the free names, the next number, strconv's table. -/
structure CN (w : World) (B bw bf bn : Nat) (F : Option Addr) (cF : Nat) (fs : List (List UInt8)) (k : Nat) : Prop where
  hw : w.heap[bw]? = some (.cells #[.func (.func 194) #[] #[.pointer (some ⟨bw, 0, none⟩), .pointer (some ⟨bf, 0, none⟩), .pointer (some ⟨bn, 0, none⟩)]] 222 (0, 0))
  hf : w.heap[bf]? = some (.cells #[.slice F fs.length cF] 26 (0, 0))
  hn : w.heap[bn]? = some (.cells #[.int .i64 k] 3 (0, 0))
  hF : SFar w F bn fs
  tab : TabB B w
  le : B ≤ bn
  ne1 : bw ≠ bn
  ne2 : bf ≠ bn
theorem CN.grown {w w1 : World} {B bw bf bn : Nat} {F : Option Addr} {cF : Nat} {fs : List (List UInt8)} {k k1 : Nat} (h : CN w B bw bf bn F cF fs k) (hg : w.grownBy w1 (some bn)) (hn : w1.heap[bn]? = some (.cells #[.int .i64 k1] 3 (0, 0))) : CN w1 B bw bf bn F cF fs k1 where
  hw := (hg.block bw (lt_of_block h.hw) (by simp; exact h.ne1)).trans h.hw
  hf := (hg.block bf (lt_of_block h.hf) (by simp; exact h.ne2)).trans h.hf
  hn := hn
  hF := h.hF.grown hg (.inl rfl)
  tab := h.tab.below ((Below.refl B w).grown hg (by have := lt_of_block h.hn; have := h.le; omega) (fun k hk => by cases hk; exact h.le))
  le := h.le
  ne1 := h.ne1
  ne2 := h.ne2
theorem CN.up {w w1 : World} {B bw bf bn : Nat} {F : Option Addr} {cF : Nat} {fs : List (List UInt8)} {k : Nat} (h : CN w B bw bf bn F cF fs k) (hb : Below w.heap.size w w1) : CN w1 B bw bf bn F cF fs k :=
  h.grown (below_grow hb) (block_up hb h.hn)
theorem CN.keeps {w w1 : World} {B bw bf bn : Nat} {F : Option Addr} {cF : Nat} {fs : List (List UInt8)} {k : Nat} (h : CN w B bw bf bn F cF fs k) (hg : w.grownBy w1 (some bn)) : Keeps 122 w w1 := fun j cs fr hj => by
  rw [hg.block j (lt_of_block hj) (by
    simp
    rintro rfl
    rw [h.hn] at hj
    simp at hj), hj]
theorem block_set {w : World} {b : Nat} {cs : Array Value} {t : TypeId} {fr : Nat × Nat} (h : w.heap[b]? = some (.cells cs t fr)) (i : Nat) (v : Value) : (w.setCell ⟨b, i, none⟩ v).heap[b]? = some (.cells (cs.setIfInBounds i v) t fr) := by
  simp only [World.setCell]
  rw [Array.getElem?_modify]
  simp [h]
theorem CN.next {w : World} {B bw bf bn : Nat} {F : Option Addr} {cF : Nat} {fs : List (List UInt8)} {k : Nat} (h : CN w B bw bf bn F cF fs k) : CN (w.setCell ⟨bn, 0, none⟩ (.int .i64 ((k : Int) + 1))) B bw bf bn F cF fs (k + 1) ∧ w.grownBy (w.setCell ⟨bn, 0, none⟩ (.int .i64 ((k : Int) + 1))) (some bn) := by
  have hg : w.grownBy (w.setCell ⟨bn, 0, none⟩ (.int .i64 ((k : Int) + 1))) (some bn) := ⟨rfl, rfl, rfl, by simp [World.setCell], fun j hj hne => Below.heap_setCell w ⟨bn, 0, none⟩ _ j (by simpa using hne)⟩
  refine ⟨h.grown hg ?_, hg⟩
  exact block_set h.hn 0 _
theorem wpAnyH_mono {P : Program} {md : Region.Mode} {ops : Array Oper} {Q : Exit → Act → World → Prop} {S S' : World → Prop} (h : ∀ w, S' w → S w) : ∀ (fuel : Nat) (listed : Array Bool) (a : Act) (w : World), wpAnyH P md ops Q S' fuel listed a w → wpAnyH P md ops Q S fuel listed a w
  | 0, _, _, _, hh => hh
  | fuel + 1, _, _, _, hh => ⟨hh.1, fun i hi => wpOp_mono (fun a' w' h' => ⟨h _ h'.1, wpAnyH_mono h fuel _ a' w' h'.2⟩) (hh.2 i hi)⟩
/-- More is held from here on. -/
theorem wpAnyH_more {P : Program} {md : Region.Mode} {ops : Array Oper} {Q : Exit → Act → World → Prop} {S : World → Prop} {C : World → Prop} {fuel : Nat} {listed : Array Bool} {a : Act} {w : World} (hS : S w) (hC : C w)
    (h : (S w ∧ C w) → wpAnyH P md ops Q (fun W => S W ∧ C W) fuel listed a w) : wpAnyH P md ops Q S fuel listed a w := wpAnyH_mono (fun _ h => h.1) _ _ _ _ (h ⟨hS, hC⟩)
end Go.Proofs.YtofbhdgccijbgaaGreatDoor
namespace Go.Proofs.YtofbhdgccijbgaaGreatDoor
open Go.RowKit
set_option linter.unusedVariables false
set_option linter.unusedSimpArgs false
mutual
theorem wf_okT : ∀ {t : Tr}, t.wf → OkT t
  | .mk s ps, h => by
    rcases h with ⟨_, _, rfl⟩ | ⟨rfl, _, h⟩
    · exact ⟨fun _ => rfl, trivial⟩
    · exact ⟨fun h => absurd rfl h, wfs_okT h⟩
theorem wfs_okT : ∀ {ts : List Tr}, Tr.wfs ts → OkTs ts
  | [], _ => trivial
  | _ :: _, h => ⟨wf_okT h.1, wfs_okT h.2⟩
end
end Go.Proofs.YtofbhdgccijbgaaGreatDoor
namespace Go.Proofs.YtofbhdgccijbgaaGreatDoor
open Go.RowKit
set_option linter.unusedVariables false
set_option linter.unusedSimpArgs false
end Go.Proofs.YtofbhdgccijbgaaGreatDoor
namespace Go.Proofs.YtofbhdgccijbgaaGreatDoor
open Go.RowKit
set_option linter.unusedVariables false
set_option linter.unusedSimpArgs false
/-- A free name stands in a type. -/
def Ty.has (s : List UInt8) : Ty → Prop
  | .name x => x = s
  | .sum a b => a.has s ∨ b.has s
  | .prod a b => a.has s ∨ b.has s
  | .loop a => a.has s
  | _ => False
theorem nstep_mem (s : List UInt8) (ls : List (List UInt8)) (u : Ty) : s ∈ nstep ls u ↔ s ∈ ls ∨ u = .name s := by
  cases u with
  | name x =>
    simp only [nstep]
    split
    · rename_i h
      constructor
      · exact .inl
      · rintro (h1 | h1)
        · exact h1
        · cases h1; exact h
    · simp only [List.mem_append, List.mem_singleton]
      constructor
      · rintro (h1 | rfl)
        · exact .inl h1
        · exact .inr rfl
      · rintro (h1 | h1)
        · exact .inl h1
        · cases h1; exact .inr rfl
  | _ => simp [nstep]
theorem fold_mem (s : List UInt8) : ∀ (l : List Ty) (ls : List (List UInt8)), s ∈ l.foldl nstep ls ↔ s ∈ ls ∨ Ty.name s ∈ l
  | [], ls => by simp
  | u :: l, ls => by
    rw [List.foldl_cons, fold_mem s l, nstep_mem]
    simp only [List.mem_cons]
    constructor
    · rintro ((h | rfl) | h)
      · exact .inl h
      · exact .inr (.inl rfl)
      · exact .inr (.inr h)
    · rintro (h | rfl | h)
      · exact .inl (.inl h)
      · exact .inl (.inr rfl)
      · exact .inr h
theorem pre_has (s : List UInt8) : ∀ (t : Ty), Ty.name s ∈ t.pre ↔ t.has s
  | .zero => by simp [Ty.pre, Ty.has]
  | .one => by simp [Ty.pre, Ty.has]
  | .bound _ => by simp [Ty.pre, Ty.has]
  | .name x => by
    simp only [Ty.pre, Ty.has, List.mem_singleton]
    constructor
    · intro h; cases h; rfl
    · rintro rfl; rfl
  | .sum a b => by simp [Ty.pre, Ty.has, pre_has s a, pre_has s b]
  | .prod a b => by simp [Ty.pre, Ty.has, pre_has s a, pre_has s b]
  | .loop a => by simp [Ty.pre, Ty.has, pre_has s a]
theorem fnames_has (s : List UInt8) (t : Ty) : s ∈ t.fnames ↔ t.has s := by
  rw [Ty.fnames, fold_mem, pre_has]
  simp
theorem names_has (s : List UInt8) (n : NT) (hn : n.ok3) : s ∈ n.names ↔ (n.db []).has s := by rw [← fnames_db n hn, fnames_has]
/-! ### emptiness -/
end Go.Proofs.YtofbhdgccijbgaaGreatDoor
namespace Go.Proofs.YtofbhdgccijbgaaGreatDoor
open Go.RowKit
set_option linter.unusedVariables false
set_option linter.unusedSimpArgs false
end Go.Proofs.YtofbhdgccijbgaaGreatDoor

