/- The program's differ, in plain Lean: what it gives, and how many fresh names it takes. -/
import Derived.Test.YtpokompplapkhaaGreatDoorDerP
namespace Go.Proofs.YtpokompplapkhaaGreatDoor
open Go.RowKit
set_option linter.unusedVariables false
set_option linter.unusedSimpArgs false

def fnm (k : Nat) : List UInt8 := 35 :: decL k
theorem fnm_inj {a b : Nat} (h : fnm a = fnm b) : a = b := by
  have h1 : decL a = decL b := by injection h
  exact tN_inj (by unfold tN; rw [h1])
/-- The fresh names behind f stand nowhere. -/
def Fresh (t : Ty) (nm : List UInt8) (f : Nat) : Prop := ∀ k, f < k → ¬ t.has (fnm k) ∧ fnm k ≠ nm
theorem Fresh.le {t : Ty} {nm : List UInt8} {f f' : Nat} (h : Fresh t nm f) (hf : f ≤ f') : Fresh t nm f' := fun k hk => h k (by omega)

def chkR (g : Bool) (t : Ty) : Ty := if (g || decide (400 < t.atoms)) = true then .zero else t
def chkG (g : Bool) (t : Ty) : Bool := g || decide (400 < t.atoms)

/-- What of gives. -/
def OfR (t : Ty) (nm : List UInt8) (g : Bool) (f : Nat) (r : Ty) (g' : Bool) (f' : Nat) : Prop :=
  r.atoms ≤ 400 ∧ (g = true → r = .zero ∧ g' = true ∧ f' = f) ∧
  (g = false → ∃ o, Der t nm o ∧ g' = o.isNone ∧ r = o.getD .zero ∧ f ≤ f' ∧ (g' = false → f' ≤ f + r.atoms) ∧ f' ≤ f + 402 * t.atoms)

theorem ty_pos : ∀ (t : Ty), 1 ≤ t.atoms
  | .zero => Nat.le_refl _
  | .one => Nat.le_refl _
  | .name _ => Nat.le_refl _
  | .bound _ => Nat.le_refl _
  | .sum a b => by simp only [Ty.atoms]; omega
  | .prod a b => by simp only [Ty.atoms]; omega
  | .loop a => by simp only [Ty.atoms]; omega
theorem put_atoms_ge (l : List UInt8) (u : Ty) : ∀ (t : Ty), t.atoms ≤ (t.put l u).atoms
  | .zero => Nat.le_refl _
  | .one => Nat.le_refl _
  | .name s => by
    simp only [Ty.put]
    split
    · exact ty_pos u
    · exact Nat.le_refl _
  | .bound _ => Nat.le_refl _
  | .sum a b => by have := put_atoms_ge l u a; have := put_atoms_ge l u b; simp only [Ty.put, Ty.atoms]; omega
  | .prod a b => by have := put_atoms_ge l u a; have := put_atoms_ge l u b; simp only [Ty.put, Ty.atoms]; omega
  | .loop a => by have := put_atoms_ge l u a; simp only [Ty.put, Ty.atoms]; omega
theorem put_atoms_mul (l : List UInt8) (u : Ty) : ∀ (t : Ty), (t.put l u).atoms ≤ t.atoms * u.atoms + t.atoms
  | .zero => by simp [Ty.put, Ty.atoms]
  | .one => by simp [Ty.put, Ty.atoms]
  | .name s => by
    simp only [Ty.put]
    split
    · simp [Ty.atoms]
    · simp [Ty.atoms]
  | .bound _ => by simp [Ty.put, Ty.atoms]
  | .sum a b => by have := put_atoms_mul l u a; have := put_atoms_mul l u b; simp only [Ty.put, Ty.atoms, Nat.add_mul] at *; omega
  | .prod a b => by have := put_atoms_mul l u a; have := put_atoms_mul l u b; simp only [Ty.put, Ty.atoms, Nat.add_mul] at *; omega
  | .loop a => by have := put_atoms_mul l u a; simp only [Ty.put, Ty.atoms, Nat.add_mul] at *; omega

theorem Der.atoms {t : Ty} {x : List UInt8} {o : Option Ty} (h : Der t x o) : ∀ d, o = some d → d.atoms ≤ 400 := by
  cases h with
  | zero => intro d h; cases h; simp [Ty.atoms]
  | one => intro d h; cases h; simp [Ty.atoms]
  | bound => intro d h; cases h; simp [Ty.atoms]
  | hit => intro d h; cases h; simp [Ty.atoms]
  | miss => intro d h; cases h; simp [Ty.atoms]
  | sum => intro d h; exact (chkO_some h).2
  | prod => intro d h; exact (chkO_some h).2
  | loop => intro d h; exact (chkO_some h).2
theorem chkO_none {o : Option Ty} (h : ∀ t, o = some t → 400 < t.atoms) : chkO o = none := by
  cases o with
  | none => rfl
  | some t => have := h t rfl; simp [chkO]; omega

theorem OfR.great (t : Ty) (nm : List UInt8) (f : Nat) : OfR t nm true f .zero true f := ⟨by simp [Ty.atoms], fun _ => ⟨rfl, rfl, rfl⟩, (fun h => nomatch h)⟩
theorem OfR.leaf {t : Ty} {nm : List UInt8} {d : Ty} (f : Nat) (h : Der t nm (some d)) : OfR t nm false f d false f :=
  ⟨h.atoms d rfl, (fun h => nomatch h), fun _ => ⟨some d, h, rfl, rfl, Nat.le_refl _, fun _ => by omega, by omega⟩⟩
/-- What comes behind two parts and a check. -/
theorem OfR.join {t : Ty} {nm : List UInt8} {oa ob : Option Ty} {f f2 : Nat} {g2 : Bool} (R : Ty) (F : Option Ty → Option Ty → Option Ty)
    (hF : ∀ a b, oa = some a → ob = some b → F oa ob = some R) (hn1 : oa = none → F oa ob = none) (hn2 : ob = none → F oa ob = none)
    (hd : Der t nm (chkO (F oa ob))) (hg : g2 = (oa.isNone || ob.isNone)) (hf : f ≤ f2) (h3 : g2 = false → R.atoms ≤ 400 → f2 ≤ f + R.atoms) (h4 : f2 ≤ f + 402 * t.atoms) :
    OfR t nm false f (chkR g2 R) (chkG g2 R) f2 := by
  by_cases hc : (g2 || decide (400 < R.atoms)) = true
  · have hnone : chkO (F oa ob) = none := by
      cases oa with
      | none => rw [hn1 rfl]; rfl
      | some a =>
        cases ob with
        | none => rw [hn2 rfl]; rfl
        | some b =>
          rw [hF a b rfl rfl]
          refine chkO_none fun t ht => ?_
          cases ht
          subst hg
          simpa using hc
    rw [hnone] at hd
    have e1 : chkR g2 R = .zero := by rw [chkR, if_pos hc]
    have e2 : chkG g2 R = true := hc
    rw [e1, e2]
    exact ⟨by simp [Ty.atoms], (fun h => nomatch h), fun _ => ⟨none, hd, rfl, rfl, hf, (fun h => nomatch h), h4⟩⟩
  · have e1 : chkR g2 R = R := by rw [chkR, if_neg hc]
    have e2 : chkG g2 R = false := by unfold chkG; simpa only [Bool.not_eq_true] using hc
    rw [e1, e2]
    simp only [Bool.or_eq_true, not_or, Bool.not_eq_true, decide_eq_false_iff_not, Nat.not_lt] at hc
    obtain ⟨hg2, ha⟩ := hc
    rw [hg2] at hg
    have hga : oa.isNone = false ∧ ob.isNone = false := by
      have := hg.symm
      simpa [Bool.or_eq_false_iff] using this
    cases oa with
    | none => exact absurd hga.1 (by simp)
    | some a =>
      cases ob with
      | none => exact absurd hga.2 (by simp)
      | some b =>
        rw [hF a b rfl rfl] at hd
        have : chkO (some R) = some R := by simp [chkO, ha]
        rw [this] at hd
        exact ⟨ha, (fun h => nomatch h), fun _ => ⟨some R, hd, rfl, rfl, hf, fun _ => h3 hg2 ha, h4⟩⟩

/-- Two parts, one behind the other. -/
theorem OfR.two {a b : Ty} {nm nm2 : List UInt8} {f f1 f2 : Nat} {ra rb : Ty} {g1 g2 : Bool} (ha : OfR a nm false f ra g1 f1) (hb : OfR b nm2 g1 f1 rb g2 f2) :
    ∃ oa ob, Der a nm oa ∧ (oa.isNone = false → Der b nm2 ob) ∧ g1 = oa.isNone ∧ g2 = (oa.isNone || ob.isNone) ∧ ra = oa.getD .zero ∧ (oa.isNone = false → rb = ob.getD .zero) ∧ f ≤ f1 ∧ f1 ≤ f2 ∧ (g1 = false → f1 ≤ f + ra.atoms) ∧ (g2 = false → f2 ≤ f1 + rb.atoms) ∧ f1 ≤ f + 402 * a.atoms ∧ f2 ≤ f + 402 * a.atoms + 402 * b.atoms ∧ (g1 = false → f2 ≤ f + 400 + 402 * b.atoms) ∧ (g1 = true → f2 = f1) := by
  obtain ⟨hra, _, h1⟩ := ha
  obtain ⟨hrb, h2, h3⟩ := hb
  obtain ⟨oa, d1, e1, e2, e3, e4, e5⟩ := h1 rfl
  cases g1 with
  | true =>
    obtain ⟨k1, k2, k3⟩ := h2 rfl
    subst k1 k2 k3
    refine ⟨oa, none, d1, fun h => ?_, e1, by simp, e2, fun h => ?_, e3, Nat.le_refl _, e4, (fun h => nomatch h), e5, by omega, (fun h => nomatch h), fun _ => rfl⟩
    · rw [← e1] at h; cases h
    · rw [← e1] at h; cases h
  | false =>
    obtain ⟨ob, d2, k1, k2, k3, k4, k5⟩ := h3 rfl
    have := e4 rfl
    refine ⟨oa, ob, d1, fun _ => d2, e1, by rw [← e1, k1]; rfl, e2, fun _ => k2, e3, k3, e4, k4, e5, by omega, fun _ => by omega, (fun h => nomatch h)⟩

theorem OfR.sum {a b : Ty} {nm : List UInt8} {f f1 f2 : Nat} {ra rb : Ty} {g1 g2 : Bool} (ha : OfR a nm false f ra g1 f1) (hb : OfR b nm g1 f1 rb g2 f2) (hex : ∃ o, Der b nm o) :
    OfR (.sum a b) nm false f (chkR g2 (.sum ra rb)) (chkG g2 (.sum ra rb)) f2 := by
  obtain ⟨oa, ob, d1, d2, e1, e2, e3, e4, e5, e6, e7, e8, e9, e10, _, _⟩ := OfR.two ha hb
  have key : ∃ ob', Der b nm ob' ∧ (oa.isNone = false → ob' = ob) := by
    cases oa with
    | none => obtain ⟨o, ho⟩ := hex; exact ⟨o, ho, (fun h => nomatch h)⟩
    | some a' => exact ⟨ob, d2 rfl, fun _ => rfl⟩
  obtain ⟨ob', d2', hob⟩ := key
  have hg : g2 = (oa.isNone || ob'.isNone) := by
    cases hn : oa.isNone with
    | true => rw [e2, hn]; rfl
    | false => rw [e2, hn, hob hn]
  refine OfR.join _ sumO ?_ ?_ ?_ (Der.sum a b nm oa ob' d1 d2') hg (by omega) ?_ ?_
  · rintro x y rfl hy
    have h := e4 rfl
    rw [← hob rfl, hy] at h
    rw [e3, h, hy]
    rfl
  · rintro rfl; rfl
  · rintro rfl; cases oa <;> rfl
  · intro hg2 _
    have h8 := e8 hg2
    have h1 : g1 = false := by rw [e1]; rw [hg2] at e2; have := e2.symm; simp only [Bool.or_eq_false_iff] at this; exact this.1
    have h7 := e7 h1
    simp only [Ty.atoms]
    omega
  · simp only [Ty.atoms]
    omega
theorem OfR.prod {a b : Ty} {nm : List UInt8} {f f1 f2 : Nat} {ra rb : Ty} {g1 g2 : Bool} (ha : OfR a nm false f ra g1 f1) (hb : OfR b nm g1 f1 rb g2 f2) (hex : ∃ o, Der b nm o) :
    OfR (.prod a b) nm false f (chkR g2 (.sum (.prod ra b) (.prod a rb))) (chkG g2 (.sum (.prod ra b) (.prod a rb))) f2 := by
  obtain ⟨oa, ob, d1, d2, e1, e2, e3, e4, e5, e6, e7, e8, e9, e10, _, _⟩ := OfR.two ha hb
  have key : ∃ ob', Der b nm ob' ∧ (oa.isNone = false → ob' = ob) := by
    cases oa with
    | none => obtain ⟨o, ho⟩ := hex; exact ⟨o, ho, (fun h => nomatch h)⟩
    | some a' => exact ⟨ob, d2 rfl, fun _ => rfl⟩
  obtain ⟨ob', d2', hob⟩ := key
  have hg : g2 = (oa.isNone || ob'.isNone) := by
    cases hn : oa.isNone with
    | true => rw [e2, hn]; rfl
    | false => rw [e2, hn, hob hn]
  refine OfR.join _ (prodO a b) ?_ ?_ ?_ (Der.prod a b nm oa ob' d1 d2') hg (by omega) ?_ ?_
  · rintro x y rfl hy
    have h := e4 rfl
    rw [← hob rfl, hy] at h
    rw [e3, h, hy]
    rfl
  · rintro rfl; rfl
  · rintro rfl; cases oa <;> rfl
  · intro hg2 _
    have h8 := e8 hg2
    have h1 : g1 = false := by rw [e1]; rw [hg2] at e2; have := e2.symm; simp only [Bool.or_eq_false_iff] at this; exact this.1
    have h7 := e7 h1
    simp only [Ty.atoms]
    omega
  · simp only [Ty.atoms]
    omega
theorem chkR_of {g : Bool} {t : Ty} (h : t.atoms ≤ 400) (hz : g = true → t = .zero) : chkR g t = t := by
  unfold chkR
  split
  · rename_i hc
    simp only [Bool.or_eq_true, decide_eq_true_eq] at hc
    rcases hc with hc | hc
    · exact (hz hc).symm
    · omega
  · rfl
theorem chkG_of {g : Bool} {t : Ty} (h : t.atoms ≤ 400) : chkG g t = g := by
  unfold chkG
  have : decide (400 < t.atoms) = false := by simp; omega
  rw [this, Bool.or_false]
theorem OfR.zero_ {t : Ty} {nm : List UInt8} {g : Bool} {f : Nat} {r : Ty} {g' : Bool} {f' : Nat} (h : OfR t nm g f r g' f') (hg : g' = true) : r = .zero := by
  obtain ⟨_, h1, h2⟩ := h
  cases g with
  | true => exact (h1 rfl).1
  | false =>
    obtain ⟨o, _, e1, e2, _⟩ := h2 rfl
    cases o with
    | none => exact e2
    | some d => rw [e1] at hg; cases hg
theorem OfR.loop {a : Ty} {nm l : List UInt8} {f f1 f2 : Nat} {rc rd : Ty} {g1 g2 : Bool} (hl : l ≠ nm) (hla : ¬ a.has l)
    (hc : OfR (a.opened (.name l) 0) nm false (f + 1) rc g1 f1) (hd : OfR (a.opened (.name l) 0) l g1 f1 rd g2 f2) (hex : ∃ o, Der (a.opened (.name l) 0) l o) :
    OfR (.loop a) nm false f (chkR g2 (.loop (.sum (rc.put l (.loop a)) (.prod (rd.put l (.loop a)) (.bound 0))))) (chkG g2 (.loop (.sum (rc.put l (.loop a)) (.prod (rd.put l (.loop a)) (.bound 0))))) f2 := by
  obtain ⟨oa, ob, d1, d2, e1, e2, e3, e4, e5, e6, e7, e8, e9, e10, e11, e12⟩ := OfR.two hc hd
  have key : ∃ ob', Der (a.opened (.name l) 0) l ob' ∧ (oa.isNone = false → ob' = ob) := by
    cases oa with
    | none => obtain ⟨o, ho⟩ := hex; exact ⟨o, ho, (fun h => nomatch h)⟩
    | some a' => exact ⟨ob, d2 rfl, fun _ => rfl⟩
  obtain ⟨ob', d2', hob⟩ := key
  have hg : g2 = (oa.isNone || ob'.isNone) := by
    cases hn : oa.isNone with
    | true => rw [e2, hn]; rfl
    | false => rw [e2, hn, hob hn]
  rw [opened_name_atoms] at e9 e10 e11
  have hp := ty_pos a
  refine OfR.join _ (loopO l (.loop a)) ?_ ?_ ?_ (Der.loop a nm l oa ob' hl hla d1 d2') hg (by omega) ?_ ?_
  · rintro x y rfl hy
    have h := e4 rfl
    rw [← hob rfl, hy] at h
    rw [e3, h, hy]
    rfl
  · rintro rfl; rfl
  · rintro rfl; cases oa <;> rfl
  · intro hg2 _
    have h8 := e8 hg2
    have h1 : g1 = false := by rw [e1]; rw [hg2] at e2; have := e2.symm; simp only [Bool.or_eq_false_iff] at this; exact this.1
    have h7 := e7 h1
    have p1 := put_atoms_ge l (.loop a) rc
    have p2 := put_atoms_ge l (.loop a) rd
    simp only [Ty.atoms]
    omega
  · simp only [Ty.atoms]
    cases g1 with
    | true => have := e12 rfl; omega
    | false => have := e11 rfl; omega
/-- Every type has a derivative, or is too great. -/
theorem der_ex : ∀ (n : Nat) (t : Ty) (nm : List UInt8) (f : Nat), t.atoms ≤ n → Fresh t nm f → ∃ o, Der t nm o
  | 0, t, _, _, hn, _ => by have := ty_pos t; omega
  | n + 1, .zero, nm, f, _, _ => ⟨_, .zero _⟩
  | n + 1, .one, nm, f, _, _ => ⟨_, .one _⟩
  | n + 1, .bound k, nm, f, _, _ => ⟨_, .bound _ _⟩
  | n + 1, .name s, nm, f, _, _ => by
    by_cases h : s = nm
    · subst h; exact ⟨_, .hit _⟩
    · exact ⟨_, .miss _ _ h⟩
  | n + 1, .sum a b, nm, f, hn, hf => by
    simp only [Ty.atoms] at hn
    obtain ⟨oa, ha⟩ := der_ex n a nm f (by omega) fun k hk => ⟨fun h => (hf k hk).1 (.inl h), (hf k hk).2⟩
    obtain ⟨ob, hb⟩ := der_ex n b nm f (by omega) fun k hk => ⟨fun h => (hf k hk).1 (.inr h), (hf k hk).2⟩
    exact ⟨_, .sum _ _ _ _ _ ha hb⟩
  | n + 1, .prod a b, nm, f, hn, hf => by
    simp only [Ty.atoms] at hn
    obtain ⟨oa, ha⟩ := der_ex n a nm f (by omega) fun k hk => ⟨fun h => (hf k hk).1 (.inl h), (hf k hk).2⟩
    obtain ⟨ob, hb⟩ := der_ex n b nm f (by omega) fun k hk => ⟨fun h => (hf k hk).1 (.inr h), (hf k hk).2⟩
    exact ⟨_, .prod _ _ _ _ _ ha hb⟩
  | n + 1, .loop a, nm, f, hn, hf => by
    simp only [Ty.atoms] at hn
    have hin : ∀ k, f + 1 < k → ¬ (a.opened (.name (fnm (f + 1))) 0).has (fnm k) := fun k hk h => by
      rcases (opened_has (fnm k) (.name (fnm (f + 1))) a 0).2 h with h | h
      · exact (hf k (by omega)).1 h
      · have := fnm_inj h; omega
    obtain ⟨oa, ha⟩ := der_ex n (a.opened (.name (fnm (f + 1))) 0) nm (f + 1) (by rw [opened_name_atoms]; omega) fun k hk => ⟨hin k hk, (hf k (by omega)).2⟩
    obtain ⟨ob, hb⟩ := der_ex n (a.opened (.name (fnm (f + 1))) 0) (fnm (f + 1)) (f + 1) (by rw [opened_name_atoms]; omega) fun k hk => ⟨hin k hk, fun h => by have := fnm_inj h; omega⟩
    exact ⟨_, .loop _ _ (fnm (f + 1)) _ _ (hf _ (by omega)).2 (fun h => (hf (f + 1) (by omega)).1 h) ha hb⟩
theorem Fresh.in_ {a : Ty} {nm : List UInt8} {f : Nat} (hf : Fresh (.loop a) nm f) : (∀ k, f + 1 < k → ¬ (a.opened (.name (fnm (f + 1))) 0).has (fnm k)) := fun k hk h => by
  rcases (opened_has (fnm k) (.name (fnm (f + 1))) a 0).2 h with h | h
  · exact (hf k (by omega)).1 h
  · have := fnm_inj h; omega

end Go.Proofs.YtpokompplapkhaaGreatDoor
