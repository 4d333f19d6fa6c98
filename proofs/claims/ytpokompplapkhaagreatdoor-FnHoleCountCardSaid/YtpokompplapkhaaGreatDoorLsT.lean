/- Lists of trees, made anew. -/
import Derived.Test.YtpokompplapkhaaGreatDoorMG
namespace Go.Proofs.YtpokompplapkhaaGreatDoor
open Go.RowKit
set_option linter.unusedVariables false
set_option linter.unusedSimpArgs false
theorem leafT (w : World) (P : Nat -> Prop) (s : List UInt8) : TAt w P (.mk s []) (.agg #[.string (St s), .slice none 0 0]) := ⟨none, 0, rfl, Nat.le_refl _, .nil _⟩
theorem trees1 {w : World} {ok : Nat -> Prop} {t : Tr} {x : ByteArray} {A : Option Addr} {n c : Nat} (ht : TAt w ok t (.agg #[.string x, .slice A n c])) : Trees w ok [t] [.string x, .slice A n c] := by
 obtain ⟨s, ps⟩ := t
 obtain ⟨B, d, h1, h2, h3⟩ := ht
 simp only [Value.agg.injEq, Array.mk.injEq, List.cons.injEq, Value.string.injEq, Value.slice.injEq, and_true] at h1
 obtain ⟨rfl, rfl, rfl, rfl⟩ := h1
 exact .cons _ _ _ _ _ _ h2 h3 .nil
theorem list1T (h : List UInt8) (ta : Tr) (W : World) (gp : Nat) (x2 : ByteArray) (B2 : Option Addr) (n2 c2 : Nat) (P : Nat -> Prop) (hP : ∀ k, W.heap.size <= k -> P k) (hr : W.heap[gp]? = some (.cells #[.string x2, .slice B2 n2 c2] 59 (0, 0))) (h1 : TAt W P ta (.agg #[.string x2, .slice B2 n2 c2])) :
 Calls Tryz.prog 71 #[.string (St h), .slice (some ⟨gp, 0, none⟩) 1 1] W fun e w' => (∃ x A n c, e = .returned (.agg #[.string x, .slice A n c]) /\ TAt w' P (.mk [] [.mk h [], ta]) (.agg #[.string x, .slice A n c])) /\ Below W.heap.size W w' := by
 refine (l1List_any h [ta] gp 0 1 _ P W (trees1 h1) (fun j u hu => ?_) (by simp) (by simp)).mono ?_
 · rw [Nat.zero_add, block_cell hr j]
   simpa using hu
 · rintro e w' ⟨⟨x, A, n, c, he, htt⟩, hb⟩
   exact ⟨⟨x, A, n, c, he, htt.weak fun k hk => hk.elim (fun h => hP k h) id⟩, hb⟩
theorem list2T (h : List UInt8) (ta tb : Tr) (W : World) (gp : Nat) (x2 x5 : ByteArray) (B2 B5 : Option Addr) (n2 c2 n5 c5 : Nat) (P : Nat -> Prop) (hP : ∀ k, W.heap.size <= k -> P k) (hr : W.heap[gp]? = some (.cells #[.string x2, .slice B2 n2 c2, .string x5, .slice B5 n5 c5] 59 (0, 0))) (h1 : TAt W P ta (.agg #[.string x2, .slice B2 n2 c2])) (h2 : TAt W P tb (.agg #[.string x5, .slice B5 n5 c5])) :
 Calls Tryz.prog 71 #[.string (St h), .slice (some ⟨gp, 0, none⟩) 2 2] W fun e w' => (∃ x A n c, e = .returned (.agg #[.string x, .slice A n c]) /\ TAt w' P (.mk [] [.mk h [], ta, tb]) (.agg #[.string x, .slice A n c])) /\ Below W.heap.size W w' := by
 refine (l1List_any h [ta, tb] gp 0 2 _ P W (trees2 h1 h2) (fun j u hu => ?_) (by simp) (by simp)).mono ?_
 · rw [Nat.zero_add, block_cell hr j]
   simpa using hu
 · rintro e w' ⟨⟨x, A, n, c, he, htt⟩, hb⟩
   exact ⟨⟨x, A, n, c, he, htt.weak fun k hk => hk.elim (fun h => hP k h) id⟩, hb⟩
end Go.Proofs.YtpokompplapkhaaGreatDoor

