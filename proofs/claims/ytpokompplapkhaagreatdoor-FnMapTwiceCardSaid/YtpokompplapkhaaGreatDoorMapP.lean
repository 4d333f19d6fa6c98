/- Changes of elements by numbers: the plain law. -/
import Derived.Test.YtpokompplapkhaaGreatDoorElN
import Derived.Test.YtpokompplapkhaaGreatDoorMF
import Derived.Test.YtpokompplapkhaaGreatDoorVOk
namespace Go.Proofs.YtpokompplapkhaaGreatDoor
open Go.RowKit
set_option linter.unusedVariables false
set_option linter.unusedSimpArgs false
theorem decL2 (k : Nat) (h : k < 100) : decL k = if k < 10 then [UInt8.ofNat (48 + k)] else [UInt8.ofNat (48 + k / 10), UInt8.ofNat (48 + k % 10)] := by
  rw [decL]
  split
  · rfl
  · rw [decL, if_pos (by omega)]
    rfl
/-- The element of a number. -/
def elT (k : Nat) : List UInt8 := 101 :: decL k
theorem elT_all : ∀ k, k < 100 → elemB (101 :: if k < 10 then [UInt8.ofNat (48 + k)] else [UInt8.ofNat (48 + k / 10), UInt8.ofNat (48 + k % 10)]) = true ∧ elN (101 :: if k < 10 then [UInt8.ofNat (48 + k)] else [UInt8.ofNat (48 + k / 10), UInt8.ofNat (48 + k % 10)]) = k := by decide
theorem elT_ok {k : Nat} (h : k < 100) : elemB (elT k) = true := by
  have := (elT_all k h).1
  unfold elT
  rw [decL2 k h]
  exact this
theorem elT_num {k : Nat} (h : k < 100) : elN (elT k) = k := by
  have := (elT_all k h).2
  unfold elT
  rw [decL2 k h]
  exact this
/-- How elements at the places of a name change. -/
def mapF (nm : List UInt8) (a b : Nat) (x s : List UInt8) : List UInt8 := if x = nm then elT ((a * elN s + b) % 100) else s
theorem mapF_ok (nm : List UInt8) (a b : Nat) (x : List UInt8) {s : List UInt8} (h : elemB s = true) : elemB (mapF nm a b x s) = true := by
  unfold mapF
  split
  · exact elT_ok (Nat.mod_lt _ (by decide))
  · exact h
theorem mapF_lt (nm : List UInt8) (a b : Nat) (x s : List UInt8) (h : (elN s : Int) < 100) : (elN (mapF nm a b x s) : Int) < 100 := by
  unfold mapF
  split
  · have := Nat.mod_lt (a * elN s + b) (show 0 < 100 by decide)
    rw [elT_num this]
    omega
  · exact h
/-- One change behind the other. -/
theorem mapF_two (nm : List UInt8) (a b : Nat) (x s : List UInt8) : mapF nm 1 1 x (mapF nm a b x s) = mapF nm a ((b + 1) % 100) x s := by
  unfold mapF
  split
  · have := Nat.mod_lt (a * elN s + b) (show 0 < 100 by decide)
    rw [elT_num this]
    congr 1
    generalize a * elN s = z
    omega
  · rfl
theorem turn_ok {g : List UInt8 → List UInt8 → List UInt8} (hg : ∀ x s, elemB s = true → elemB (g x s) = true) : ∀ (v : V) (env : List Ty) (t : Ty), v.ok → (v.turn g env t).ok := by
  intro v
  induction v with
  | u => intro env t h; cases t <;> exact h
  | el s => intro env t h; cases t <;> first | exact hg _ _ h | exact h
  | l v ih => intro env t h; cases t <;> first | exact ih _ _ h | exact h
  | r v ih => intro env t h; cases t <;> first | exact ih _ _ h | exact h
  | p v w ih ih2 => intro env t h; cases t <;> first | exact ⟨ih _ _ h.1, ih2 _ _ h.2⟩ | exact h
  | f v ih =>
    intro env t h
    cases t with
    | loop a => exact ih _ _ h
    | bound k =>
      simp only [V.turn]
      split
      · exact ih _ _ h
      · exact h
    | _ => exact h
end Go.Proofs.YtpokompplapkhaaGreatDoor

