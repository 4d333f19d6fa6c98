/- The program's canon: the names that its closure gives. The program's put and opened. The program's canon and told; TypeCanon. -/
import Derived.Test.YtcgccdhmenobkaaDoorMH
import Derived.Test.YtcgccdhmenobkaaDoorMF
import Derived.Test.YtcgccdhmenobkaaDoorTk
import Derived.Test.YtcgccdhmenobkaaDoorMI
import Derived.Lib.AppendIntMem
import Derived.Lib.LaidTab
import Derived.Test.YtcgccdhmenobkaaDoorME
import Derived.Laws.EntriesVeiled
namespace Go.Proofs.YtcgccdhmenobkaaDoor
open Go.RowKit
set_option linter.unusedVariables false
set_option linter.unusedSimpArgs false
def Ty.nmle : Ty -> Prop
 | .name s => s.length <= 10
 | .sum a b => a.nmle /\ b.nmle
 | .prod a b => a.nmle /\ b.nmle
 | .loop a => a.nmle
 | _ => True
theorem tN_len10 (j : Nat) (h : j < 100000000) : (tN j).length <= 10 := (tN_ok j h).2.2.2.2
theorem cw_len (fs : List (List UInt8)) : ∀ (t : Ty) (ar : List (List UInt8)) (k : Nat), t.nmle -> (∀ s ∈ ar, s.length <= 10) -> k + t.atoms * (fs.length + 1) <= 10000000 ->
 (t.cw fs ar k).1.length <= 12 * t.atoms /\ k <= (t.cw fs ar k).2 /\ (t.cw fs ar k).2 <= k + t.atoms * (fs.length + 1)
 | .zero, _, k, _, _, _ => ⟨by simp [Ty.cw, Ty.atoms], Nat.le_refl _, by simp [Ty.cw]⟩
 | .one, _, k, _, _, _ => ⟨by simp [Ty.cw, Ty.atoms], Nat.le_refl _, by simp [Ty.cw]⟩
 | .name s, _, k, h, _, _ => ⟨by simp only [Ty.cw, Ty.atoms]; have : s.length <= 10 := h; omega, Nat.le_refl _, by simp [Ty.cw]⟩
 | .bound i, ar, k, _, h, _ => ⟨by
  simp only [Ty.cw, Ty.atoms]
  cases hi : ar[i]? with
  | none => simp
  | some s => have := h s (List.mem_of_getElem? hi); simp; omega, Nat.le_refl _, by simp [Ty.cw]⟩
 | .sum a b, ar, k, h, har, hk => by
  simp only [Ty.atoms, Nat.add_mul] at hk ⊢
  obtain ⟨h1, h2, h3⟩ := cw_len fs a ar k h.1 har (by omega)
  obtain ⟨h4, h5, h6⟩ := cw_len fs b ar (a.cw fs ar k).2 h.2 har (by omega)
  simp only [Ty.cw, List.length_append, List.length_cons, List.length_nil]
  refine ⟨by omega, by omega, by omega⟩
 | .prod a b, ar, k, h, har, hk => by
  simp only [Ty.atoms, Nat.add_mul] at hk ⊢
  obtain ⟨h1, h2, h3⟩ := cw_len fs a ar k h.1 har (by omega)
  obtain ⟨h4, h5, h6⟩ := cw_len fs b ar (a.cw fs ar k).2 h.2 har (by omega)
  simp only [Ty.cw, List.length_append, List.length_cons, List.length_nil]
  refine ⟨by omega, by omega, by omega⟩
 | .loop a, ar, k, h, har, hk => by
  simp only [Ty.atoms, Nat.add_mul] at hk ⊢
  have hf := fresh_le fs fs.length k
  have hfr : k <= freshN fs k /\ freshN fs k <= k + fs.length := hf
  have htn := tN_len10 (freshN fs k) (by omega)
  obtain ⟨h1, h2, h3⟩ := cw_len fs a (tN (freshN fs k) :: ar) (freshN fs k + 1) h (by
   intro s hs
   rcases List.mem_cons.1 hs with rfl | hs
   · exact htn
   · exact har s hs) (by omega)
  simp only [Ty.cw, List.length_append, List.length_cons, List.length_nil]
  refine ⟨by omega, by omega, by omega⟩
theorem fresh_in (free : List (List UInt8)) : ∀ (f k j : Nat), k <= j -> j < fresh free f k -> tN j ∈ free
 | 0, k, j, h1, h2 => by simp only [fresh] at h2; omega
 | f + 1, k, j, h1, h2 => by
  rw [fresh] at h2
  split at h2
  · rename_i hm
    by_cases hj : j = k
    · subst hj
      exact hm
    · exact fresh_in free f (k + 1) j (by omega) h2
  · omega
theorem cat116 (l : List UInt8) : (⟨#[116]⟩ : ByteArray) ++ St l = St (116 :: l) := by
 apply ByteArray.ext
 simp [ByteArray.data_append]
end Go.Proofs.YtcgccdhmenobkaaDoor
namespace Go.Proofs.YtcgccdhmenobkaaDoor
open Go.RowKit
set_option linter.unusedVariables false
set_option linter.unusedSimpArgs false
end Go.Proofs.YtcgccdhmenobkaaDoor
namespace Go.Proofs.YtcgccdhmenobkaaDoor
open Go.RowKit
set_option linter.unusedVariables false
set_option linter.unusedSimpArgs false
def outT : Option (List UInt8) -> Value
 | none => .tuple #[.string (St []), .bool false]
 | some s => .tuple #[.string (St s), .bool true]
end Go.Proofs.YtcgccdhmenobkaaDoor
