/- Numbers of elements. -/
import Derived.Test.YtpokompplapkhaaGreatDoorVTy
import Derived.Test.YtpokompplapkhaaGreatDoorMB
import Derived.Lib.Atoi
namespace Go.Proofs.YtpokompplapkhaaGreatDoor
open Go.RowKit
set_option linter.unusedVariables false
set_option linter.unusedSimpArgs false

/-- An element's text, and its number. -/
theorem elem_nums {s : List UInt8} (h : elemB s = true) : ∃ r, s = 101 :: r ∧ 1 ≤ r.length ∧ r.length ≤ 2 ∧ Lib.atoi r = some (elN s : Int) ∧ elN s ≤ 99 ∧ elemNum s = (elN s : Int) := by
  rcases s with _ | ⟨e, _ | ⟨a, _ | ⟨b, _ | ⟨c, r⟩⟩⟩⟩
  · cases h
  · cases h
  · simp only [elemB, Bool.and_eq_true, beq_iff_eq] at h
    obtain ⟨rfl, ha⟩ := h
    have h1 := (digitB_iff a).1 ha
    have hn : elN [101, a] = a.toNat - 48 := by simp [elN]
    refine ⟨[a], rfl, by simp, by simp, ?_, by omega, ?_⟩
    · have k1 : ¬ a = 45 := by rintro rfl; exact absurd h1.1 (by decide)
      have k2 : ¬ a = 43 := by rintro rfl; exact absurd h1.1 (by decide)
      rw [hn]
      simp [Lib.atoi, Lib.decNat, Lib.decFrom, Lib.digitVal, h1, k1, k2]
    · have he : elemB [101, a] = true := by simp [elemB, ha]
      simp only [elemNum, he, if_true, hn, numB, List.tail_cons, List.foldl_cons, List.foldl_nil]
      omega
  · simp only [elemB, Bool.and_eq_true, beq_iff_eq] at h
    obtain ⟨⟨rfl, ha, hb⟩, h0⟩ := h
    have h1 := (digitB_iff a).1 ha
    have h2 := (digitB_iff b).1 hb
    have hn : elN [101, a, b] = 10 * (a.toNat - 48) + (b.toNat - 48) := by simp [elN]
    refine ⟨[a, b], rfl, by simp, by simp, ?_, by omega, ?_⟩
    · have k1 : ¬ a = 45 := by rintro rfl; exact absurd h1.1 (by decide)
      have k2 : ¬ a = 43 := by rintro rfl; exact absurd h1.1 (by decide)
      rw [hn]
      simp [Lib.atoi, Lib.decNat, Lib.decFrom, Lib.digitVal, h1, h2, k1, k2]
      omega
    · have he : elemB [101, a, b] = true := by simp [elemB, ha, hb, h0]
      simp only [elemNum, he, if_true, hn, numB, List.tail_cons, List.foldl_cons, List.foldl_nil]
      omega
  · cases h

end Go.Proofs.YtpokompplapkhaaGreatDoor
