/- Changes of elements by numbers: the plain law. -/
import Derived.Test.YtofbhdgccijbgaaGreatDoorElN
import Derived.Test.YtofbhdgccijbgaaGreatDoorMF
import Derived.Test.YtofbhdgccijbgaaGreatDoorVOk
namespace Go.Proofs.YtofbhdgccijbgaaGreatDoor
open Go.RowKit
set_option linter.unusedVariables false
set_option linter.unusedSimpArgs false
theorem decL2 (k : Nat) (h : k < 100) : decL k = if k < 10 then [UInt8.ofNat (48 + k)] else [UInt8.ofNat (48 + k / 10), UInt8.ofNat (48 + k % 10)] := by
  rw [decL]
  split
  · rfl
  · rw [decL, if_pos (by omega)]
    rfl
/-- The element of a number. -/
def elT (k : Nat) : List UInt8 := 101 :: decL k
theorem elT_all : ∀ k, k < 100 → elemB (101 :: if k < 10 then [UInt8.ofNat (48 + k)] else [UInt8.ofNat (48 + k / 10), UInt8.ofNat (48 + k % 10)]) = true ∧ elN (101 :: if k < 10 then [UInt8.ofNat (48 + k)] else [UInt8.ofNat (48 + k / 10), UInt8.ofNat (48 + k % 10)]) = k := by decide
theorem elT_ok {k : Nat} (h : k < 100) : elemB (elT k) = true := by
  have := (elT_all k h).1
  unfold elT
  rw [decL2 k h]
  exact this
theorem elT_num {k : Nat} (h : k < 100) : elN (elT k) = k := by
  have := (elT_all k h).2
  unfold elT
  rw [decL2 k h]
  exact this
theorem byte_of (a : UInt8) (n : Nat) (h : a.toNat = n) : UInt8.ofNat n = a := by rw [← h]; exact UInt8.ofNat_toNat
theorem elT_elN {s : List UInt8} (h : elemB s = true) : elT (elN s) = s := by
  rcases s with _ | ⟨e, _ | ⟨a, _ | ⟨b, _ | ⟨c, r⟩⟩⟩⟩
  · cases h
  · cases h
  · simp only [elemB, Bool.and_eq_true, beq_iff_eq] at h
    obtain ⟨rfl, ha⟩ := h
    have h1 := (digitB_iff a).1 ha
    have hn : elN [101, a] = a.toNat - 48 := by simp [elN]
    unfold elT
    rw [hn, decL2 _ (by omega), if_pos (by omega), byte_of a _ (by omega)]
  · simp only [elemB, Bool.and_eq_true, beq_iff_eq, bne_iff_ne, ne_eq] at h
    obtain ⟨⟨rfl, ha, hb⟩, h0⟩ := h
    have h1 := (digitB_iff a).1 ha
    have h2 := (digitB_iff b).1 hb
    have h3 : a.toNat ≠ 48 := fun h => h0 (by rw [← UInt8.toNat_inj]; exact h)
    have hn : elN [101, a, b] = 10 * (a.toNat - 48) + (b.toNat - 48) := by simp [elN]
    unfold elT
    rw [hn, decL2 _ (by omega), if_neg (by omega), byte_of a _ (by omega), byte_of b _ (by omega)]
  · cases h
/-- How elements at the places of a name change. -/
def mapF (nm : List UInt8) (a b : Nat) (x s : List UInt8) : List UInt8 := if x = nm then elT ((a * elN s + b) % 100) else s
theorem mapF_id (nm : List UInt8) (x : List UInt8) {s : List UInt8} (h : elemB s = true) : mapF nm 1 0 x s = s := by
  unfold mapF
  split
  · obtain ⟨r, _, _, _, _, h9, _⟩ := elem_nums h
    rw [show (1 * elN s + 0) % 100 = elN s by omega, elT_elN h]
  · rfl
theorem mapF_ok (nm : List UInt8) (a b : Nat) (x : List UInt8) {s : List UInt8} (h : elemB s = true) : elemB (mapF nm a b x s) = true := by
  unfold mapF
  split
  · exact elT_ok (Nat.mod_lt _ (by decide))
  · exact h
theorem mapF_lt (nm : List UInt8) (a b : Nat) (x s : List UInt8) (h : (elN s : Int) < 100) : (elN (mapF nm a b x s) : Int) < 100 := by
  unfold mapF
  split
  · have := Nat.mod_lt (a * elN s + b) (show 0 < 100 by decide)
    rw [elT_num this]
    omega
  · exact h
theorem turn_ok {g : List UInt8 → List UInt8 → List UInt8} (hg : ∀ x s, elemB s = true → elemB (g x s) = true) : ∀ (v : V) (env : List Ty) (t : Ty), v.ok → (v.turn g env t).ok := by
  intro v
  induction v with
  | u => intro env t h; cases t <;> exact h
  | el s => intro env t h; cases t <;> first | exact hg _ _ h | exact h
  | l v ih => intro env t h; cases t <;> first | exact ih _ _ h | exact h
  | r v ih => intro env t h; cases t <;> first | exact ih _ _ h | exact h
  | p v w ih ih2 => intro env t h; cases t <;> first | exact ⟨ih _ _ h.1, ih2 _ _ h.2⟩ | exact h
  | f v ih =>
    intro env t h
    cases t with
    | loop a => exact ih _ _ h
    | bound k =>
      simp only [V.turn]
      split
      · exact ih _ _ h
      · exact h
    | _ => exact h
theorem labs_ok : ∀ (v : V) (env : List Ty) (t : Ty), v.ok → ∀ p ∈ v.labs env t, elemB p.2 = true := by
  intro v
  induction v with
  | u => intro env t h p hp; cases t <;> cases hp
  | el s =>
    intro env t h p hp
    cases t with
    | name x => simp only [V.labs, List.mem_singleton] at hp; subst hp; exact h
    | _ => cases hp
  | l v ih => intro env t h p hp; cases t <;> first | exact ih _ _ h p hp | cases hp
  | r v ih => intro env t h p hp; cases t <;> first | exact ih _ _ h p hp | cases hp
  | p v w ih ih2 =>
    intro env t h p hp
    cases t with
    | prod a b =>
      simp only [V.labs, List.mem_append] at hp
      rcases hp with hp | hp
      · exact ih _ _ h.1 p hp
      · exact ih2 _ _ h.2 p hp
    | _ => cases hp
  | f v ih =>
    intro env t h p hp
    cases t with
    | loop a => exact ih _ _ h p hp
    | bound k =>
      simp only [V.labs] at hp
      split at hp
      · exact ih _ _ h p hp
      · cases hp
    | _ => cases hp
end Go.Proofs.YtofbhdgccijbgaaGreatDoor

