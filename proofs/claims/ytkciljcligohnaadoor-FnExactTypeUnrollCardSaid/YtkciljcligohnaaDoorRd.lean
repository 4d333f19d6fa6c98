/- Reading texts, in plain Lean. -/
import Derived.Test.YtkciljcligohnaaDoorBase
namespace Go.Proofs.YtkciljcligohnaaDoor
open Go.RowKit
set_option linter.unusedVariables false
set_option linter.unusedSimpArgs false

def atomB (b : UInt8) : Bool := (97 ≤ b && b ≤ 122) || (48 ≤ b && b ≤ 57) || b == 43 || b == 42

theorem atomB_int (b : UInt8) : atomB b = (decide ((97 : Int) ≤ b.toNat) && decide ((b.toNat : Int) ≤ 122) || decide ((48 : Int) ≤ b.toNat) && decide ((b.toNat : Int) ≤ 57) || ((b.toNat : Int) == 43) || ((b.toNat : Int) == 42)) := by
  unfold atomB
  have h1 : ∀ n : UInt8, decide (n ≤ b) = decide ((n.toNat : Int) ≤ (b.toNat : Int)) := fun n => by rw [decide_eq_decide, UInt8.le_iff_toNat_le]; omega
  have h2 : ∀ n : UInt8, decide (b ≤ n) = decide ((b.toNat : Int) ≤ (n.toNat : Int)) := fun n => by rw [decide_eq_decide, UInt8.le_iff_toNat_le]; omega
  have h3 : ∀ n : UInt8, (b == n) = ((b.toNat : Int) == (n.toNat : Int)) := fun n => by
    rw [Bool.eq_iff_iff, beq_iff_eq, beq_iff_eq, ← UInt8.toNat_inj]; omega
  rw [h1, h1, h2, h2, h3, h3]
  rfl

/-- The parts of a list: f reads one; at most n more. -/
def rdLoop (f : List UInt8 → Option (Tr × List UInt8)) : Nat → List Tr → List UInt8 → Option (Tr × List UInt8)
  | 0, _, _ => none
  | n + 1, acc, l => match f l with
    | some (t, b :: r) => if b = 41 then some (.mk [] (acc ++ [t]), r) else if b = 32 then rdLoop f n (acc ++ [t]) r else none
    | _ => none

/-- One atom or list at the head of a text, at most d lists within each other; and the rest. -/
def rd : Nat → List UInt8 → Option (Tr × List UInt8)
  | d, l =>
    if l.takeWhile atomB ≠ [] then some (.mk (l.takeWhile atomB) [], l.dropWhile atomB)
    else match d, l with
      | d + 1, b :: r => if b = 40 then rdLoop (rd d) (r.length + 1) [] r else none
      | _, _ => none

theorem rdLoop_len {f : List UInt8 → Option (Tr × List UInt8)} (hf : ∀ l t r, f l = some (t, r) → r.length < l.length) : ∀ (n : Nat) (acc : List Tr) (l : List UInt8) (t : Tr) (r : List UInt8), rdLoop f n acc l = some (t, r) → r.length < l.length
  | 0, _, _, _, _, h => by simp [rdLoop] at h
  | n + 1, acc, l, t, r, h => by
    unfold rdLoop at h
    split at h
    · rename_i t' b r' hfl
      have h1 := hf _ _ _ hfl
      simp only [List.length_cons] at h1
      split at h
      · simp only [Option.some.injEq, Prod.mk.injEq] at h
        obtain ⟨_, rfl⟩ := h
        omega
      · split at h
        · have h2 := rdLoop_len hf n _ _ _ _ h
          omega
        · simp at h
    · simp at h

theorem take_drop_while_len (l : List UInt8) : (l.takeWhile atomB).length + (l.dropWhile atomB).length = l.length := by
  rw [← List.length_append, List.takeWhile_append_dropWhile]

theorem rd_len : ∀ (d : Nat) (l : List UInt8) (t : Tr) (r : List UInt8), rd d l = some (t, r) → r.length < l.length
  | 0, l, t, r, h => by
    unfold rd at h
    split at h
    · rename_i h0
      simp only [Option.some.injEq, Prod.mk.injEq] at h
      obtain ⟨_, rfl⟩ := h
      have := take_drop_while_len l
      have : 0 < (l.takeWhile atomB).length := List.length_pos_iff.2 h0
      omega
    · simp at h
  | d + 1, l, t, r, h => by
    unfold rd at h
    split at h
    · rename_i h0
      simp only [Option.some.injEq, Prod.mk.injEq] at h
      obtain ⟨_, rfl⟩ := h
      have := take_drop_while_len l
      have : 0 < (l.takeWhile atomB).length := List.length_pos_iff.2 h0
      omega
    · cases l with
      | nil => simp at h
      | cons b r' =>
        simp only at h
        split at h
        · have := rdLoop_len (rd_len d) _ _ _ _ _ h
          simp only [List.length_cons]
          omega
        · simp at h

/-- A whole text. -/
def rdText (l : List UInt8) : Option Tr := if 8000 < l.length then none else match rd 300 l with
  | some (t, []) => some t
  | _ => none

/-- How many of the first bytes stand in an atom. -/
theorem takeWhile_len_of {l : List UInt8} {k : Nat} (hk : k ≤ l.length) (h1 : ∀ j (h : j < l.length), j < k → atomB l[j] = true) (h2 : ∀ h : k < l.length, atomB l[k] = false) : l.takeWhile atomB = l.take k ∧ l.dropWhile atomB = l.drop k := by
  induction l generalizing k with
  | nil => simp
  | cons b r ih =>
    cases k with
    | zero =>
      have := h2 (by simp)
      simp only [List.getElem_cons_zero] at this
      simp [this]
    | succ k =>
      have h0 := h1 0 (by simp) (by omega)
      simp only [List.getElem_cons_zero] at h0
      simp only [List.length_cons] at hk
      have := ih (k := k) (by omega) (fun j h hj => h1 (j + 1) (by simp; omega) (by omega)) (fun h => h2 (by simp; omega))
      simp [h0, this.1, this.2]

end Go.Proofs.YtkciljcligohnaaDoor
