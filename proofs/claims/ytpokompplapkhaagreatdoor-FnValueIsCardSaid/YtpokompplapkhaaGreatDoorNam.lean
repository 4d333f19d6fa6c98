/- Every nameless form has names; derivatives as a function. -/
import Derived.Test.YtpokompplapkhaaGreatDoorDerP
import Derived.Test.YtpokompplapkhaaGreatDoorMQ
namespace Go.Proofs.YtpokompplapkhaaGreatDoor
open Go.RowKit
set_option linter.unusedVariables false
set_option linter.unusedSimpArgs false

/-- Names for what is bound; the names around, the innermost first. -/
def Ty.nam (free : List (List UInt8)) : Ty → List (List UInt8) → Nat → NT × Nat
  | .zero, _, k => (.zero, k)
  | .one, _, k => (.one, k)
  | .name s, _, k => (.name s, k)
  | .bound i, ar, k => (.name ((ar[i]?).getD []), k)
  | .sum a b, ar, k => (.sum (a.nam free ar k).1 (b.nam free ar (a.nam free ar k).2).1, (b.nam free ar (a.nam free ar k).2).2)
  | .prod a b, ar, k => (.prod (a.nam free ar k).1 (b.nam free ar (a.nam free ar k).2).1, (b.nam free ar (a.nam free ar k).2).2)
  | .loop a, ar, k => (.loop (tN (freshN free k)) (a.nam free (tN (freshN free k) :: ar) (freshN free k + 1)).1, (a.nam free (tN (freshN free k) :: ar) (freshN free k + 1)).2)
/-- The names around are of the row, below the next number, each once, and no free ones. -/
def ArOk (free ar : List (List UInt8)) (k : Nat) : Prop := (∀ s ∈ ar, s ∉ free ∧ ∃ j, j < k ∧ s = tN j) ∧ ar.Nodup
theorem ArOk.le {free ar : List (List UInt8)} {k k' : Nat} (h : ArOk free ar k) (hk : k ≤ k') : ArOk free ar k' :=
  ⟨fun s hs => by obtain ⟨h1, j, hj, h2⟩ := h.1 s hs; exact ⟨h1, j, by omega, h2⟩, h.2⟩
theorem ArOk.cons {free ar : List (List UInt8)} {k : Nat} (h : ArOk free ar k) : ArOk free (tN (freshN free k) :: ar) (freshN free k + 1) := by
  have hf : k ≤ freshN free k ∧ freshN free k ≤ k + free.length := fresh_le free free.length k
  refine ⟨fun s hs => ?_, ?_⟩
  · rcases List.mem_cons.1 hs with rfl | hs
    · exact ⟨freshN_not free k, _, by omega, rfl⟩
    · obtain ⟨h1, j, hj, h2⟩ := h.1 s hs
      exact ⟨h1, j, by omega, h2⟩
  · rw [List.nodup_cons]
    refine ⟨fun hm => ?_, h.2⟩
    obtain ⟨_, j, hj, h2⟩ := h.1 _ hm
    have := tN_inj h2
    omega
theorem look_get {ar : List (List UInt8)} (h : ar.Nodup) : ∀ {i : Nat} {s : List UInt8}, ar[i]? = some s → look s ar = some i := by
  induction ar with
  | nil => intro i s h; simp at h
  | cons e r ih =>
    intro i s hi
    rw [List.nodup_cons] at h
    cases i with
    | zero =>
      simp at hi
      subst hi
      simp [look]
    | succ i =>
      simp at hi
      have hm := List.mem_of_getElem? hi
      rw [look, if_neg (fun he : e = s => h.1 (by rw [he]; exact hm)), ih h.2 hi]
      rfl
theorem nam_le (free : List (List UInt8)) : ∀ (t : Ty) (ar : List (List UInt8)) (k : Nat), k ≤ (t.nam free ar k).2 ∧ (t.nam free ar k).2 ≤ k + t.atoms * (free.length + 1)
  | .zero, _, k => ⟨Nat.le_refl _, by simp [Ty.nam]⟩
  | .one, _, k => ⟨Nat.le_refl _, by simp [Ty.nam]⟩
  | .name s, _, k => ⟨Nat.le_refl _, by simp [Ty.nam]⟩
  | .bound i, _, k => ⟨Nat.le_refl _, by simp [Ty.nam]⟩
  | .sum a b, ar, k => by
    have h1 := nam_le free a ar k
    have h2 := nam_le free b ar (a.nam free ar k).2
    simp only [Ty.nam, Ty.atoms, Nat.add_mul]
    omega
  | .prod a b, ar, k => by
    have h1 := nam_le free a ar k
    have h2 := nam_le free b ar (a.nam free ar k).2
    simp only [Ty.nam, Ty.atoms, Nat.add_mul]
    omega
  | .loop a, ar, k => by
    have hf : k ≤ freshN free k ∧ freshN free k ≤ k + free.length := fresh_le free free.length k
    have h1 := nam_le free a (tN (freshN free k) :: ar) (freshN free k + 1)
    simp only [Ty.nam, Ty.atoms, Nat.add_mul]
    omega
theorem nam_db (free : List (List UInt8)) : ∀ (t : Ty) (ar : List (List UInt8)) (k : Nat), (∀ s, t.has s → s ∈ free) → t.scoped ar.length → ArOk free ar k → (t.nam free ar k).1.db ar = t
  | .zero, _, _, _, _, _ => rfl
  | .one, _, _, _, _, _ => rfl
  | .name s, ar, k, hf, _, ha => by
    simp only [Ty.nam, NT.db]
    split
    · rfl
    · rw [look_none.2 fun hm => (ha.1 s hm).1 (hf s rfl)]
  | .bound i, ar, k, _, hs, ha => by
    have hs : i < ar.length := hs
    have hi : ar[i]? = some ar[i] := List.getElem?_eq_getElem hs
    simp only [Ty.nam, hi, Option.getD_some, NT.db]
    obtain ⟨_, j, _, hj⟩ := ha.1 ar[i] (List.getElem_mem hs)
    rw [if_neg (by rw [hj, tN_param]; simp), look_get ha.2 hi]
  | .sum a b, ar, k, hf, hs, ha => by
    simp only [Ty.nam, NT.db]
    rw [nam_db free a ar k (fun s h => hf s (.inl h)) hs.1 ha, nam_db free b ar _ (fun s h => hf s (.inr h)) hs.2 (ha.le (nam_le free a ar k).1)]
  | .prod a b, ar, k, hf, hs, ha => by
    simp only [Ty.nam, NT.db]
    rw [nam_db free a ar k (fun s h => hf s (.inl h)) hs.1 ha, nam_db free b ar _ (fun s h => hf s (.inr h)) hs.2 (ha.le (nam_le free a ar k).1)]
  | .loop a, ar, k, hf, hs, ha => by
    simp only [Ty.nam, NT.db]
    rw [nam_db free a (tN (freshN free k) :: ar) _ (fun s h => hf s h) hs ha.cons]
theorem nam_ok3 (free : List (List UInt8)) : ∀ (t : Ty) (ar : List (List UInt8)) (k : Nat), (∀ s, t.has s → nmOk s) → t.scoped ar.length → (∀ s ∈ ar, nmOk s) → k + t.atoms * (free.length + 1) < 100000000 → (t.nam free ar k).1.ok3
  | .zero, _, _, _, _, _, _ => trivial
  | .one, _, _, _, _, _, _ => trivial
  | .name s, ar, k, hf, _, _, _ => hf s rfl
  | .bound i, ar, k, _, hs, ha, _ => by
    have hs : i < ar.length := hs
    have hi : ar[i]? = some ar[i] := List.getElem?_eq_getElem hs
    simp only [Ty.nam, hi, Option.getD_some]
    exact ha _ (List.getElem_mem hs)
  | .sum a b, ar, k, hf, hs, ha, hk => by
    simp only [Ty.atoms, Nat.add_mul] at hk
    have h1 := nam_le free a ar k
    exact ⟨nam_ok3 free a ar k (fun s h => hf s (.inl h)) hs.1 ha (by omega), nam_ok3 free b ar _ (fun s h => hf s (.inr h)) hs.2 ha (by omega)⟩
  | .prod a b, ar, k, hf, hs, ha, hk => by
    simp only [Ty.atoms, Nat.add_mul] at hk
    have h1 := nam_le free a ar k
    exact ⟨nam_ok3 free a ar k (fun s h => hf s (.inl h)) hs.1 ha (by omega), nam_ok3 free b ar _ (fun s h => hf s (.inr h)) hs.2 ha (by omega)⟩
  | .loop a, ar, k, hf, hs, ha, hk => by
    simp only [Ty.atoms, Nat.add_mul] at hk
    have hfr : k ≤ freshN free k ∧ freshN free k ≤ k + free.length := fresh_le free free.length k
    have hn := tN_ok (freshN free k) (by omega)
    refine ⟨⟨hn, tN_param _⟩, nam_ok3 free a _ _ (fun s h => hf s h) hs (fun s h => ?_) (by omega)⟩
    rcases List.mem_cons.1 h with rfl | h
    · exact hn
    · exact ha s h
theorem fnames_len (t : Ty) : t.fnames.length ≤ t.atoms := by
  have h1 := fold_m (fun (l : List (List UInt8)) => l.length) nstep (fun acc u => nstep_len acc u) t.pre []
  have h2 := pre_len t
  simp only [List.length_nil] at h1
  unfold Ty.fnames
  omega
/-- Every nameless form is that of a type with names. -/
theorem named (t : Ty) (hs : t.scoped 0) (hn : ∀ s, t.has s → nmOk s) (ha : t.atoms ≤ 9000) : ∃ n : NT, n.ok3 ∧ n.db [] = t := by
  have h1 := fnames_len t
  have h2 : t.atoms * (t.fnames.length + 1) ≤ 9000 * 9001 := Nat.mul_le_mul ha (by omega)
  exact ⟨(t.nam t.fnames [] 0).1, nam_ok3 t.fnames t [] 0 hn hs (by simp) (by omega), nam_db t.fnames t [] 0 (fun s h => (fnames_has s t).2 h) hs ⟨by simp, by simp⟩⟩
/-- A told text, of any nameless form. -/
theorem told_ty {t : Ty} (hs : t.scoped 0) (hn : ∀ s, t.has s → nmOk s) {c : List UInt8} (h : t.told = some c) : ∃ m, rdTy c = some m ∧ m.ok ∧ m.db [] = t := by
  have ha : t.atoms ≤ 400 := by
    rw [Ty.told] at h
    split at h
    · cases h
    · omega
  obtain ⟨n, hn3, rfl⟩ := named t hs hn (by omega)
  obtain ⟨m, h1, h2, h3, _⟩ := told_db hn3 h
  exact ⟨m, h1, h2, h3⟩

/-! ### derivatives as a function -/
open Classical in
noncomputable def derO (t : Ty) (x : List UInt8) : Option Ty := if h : ∃ o, Der t x o then Classical.choose h else none
theorem derO_eq {t : Ty} {x : List UInt8} {o : Option Ty} (h : Der t x o) : derO t x = o := by
  have he : ∃ o, Der t x o := ⟨o, h⟩
  unfold derO
  rw [dif_pos he]
  exact Der.func t.atoms (Nat.le_refl _) (Classical.choose_spec he) h
theorem Der.scoped {t : Ty} {x : List UInt8} {o : Option Ty} (h : Der t x o) : t.scoped 0 → ∀ d, o = some d → d.scoped 0 := by
  induction h with
  | zero x => rintro hs d h; cases h; trivial
  | one x => rintro hs d h; cases h; trivial
  | bound k x => rintro hs d h; cases h; trivial
  | hit x => rintro hs d h; cases h; trivial
  | miss s x h => rintro hs d h; cases h; trivial
  | sum a b x oa ob _ _ iha ihb =>
    intro hs d h
    obtain ⟨h, _⟩ := chkO_some h
    cases oa with
    | none => cases h
    | some a' =>
      cases ob with
      | none => cases h
      | some b' =>
        cases h
        exact ⟨iha hs.1 a' rfl, ihb hs.2 b' rfl⟩
  | prod a b x oa ob _ _ iha ihb =>
    intro hs d h
    obtain ⟨h, _⟩ := chkO_some h
    cases oa with
    | none => cases h
    | some a' =>
      cases ob with
      | none => cases h
      | some b' =>
        cases h
        exact ⟨⟨iha hs.1 a' rfl, hs.2⟩, ⟨hs.1, ihb hs.2 b' rfl⟩⟩
  | loop a x l oc od hl hla _ _ ihc ihd =>
    intro hs d h
    obtain ⟨h, _⟩ := chkO_some h
    cases oc with
    | none => cases h
    | some c =>
      cases od with
      | none => cases h
      | some e =>
        cases h
        have hT : (Ty.loop a).scoped 0 := hs
        have hin := opened_scoped (.name l) trivial a 0 hs
        exact ⟨scoped_mono _ (Nat.zero_le _) (put_scoped l _ hT c 0 (ihc hin c rfl)), scoped_mono _ (Nat.zero_le _) (put_scoped l _ hT e 0 (ihd hin e rfl)), Nat.zero_lt_one⟩
/-- The derivative of what is read, told. -/
noncomputable def derivOf (o : Option NT) (x : List UInt8) : Option (List UInt8) := if paramB x = true then o.bind fun n => (derO (n.db []) x).bind Ty.told else none
theorem derivOf_db {n m : NT} (h : n.db [] = m.db []) (x : List UInt8) : derivOf (some n) x = derivOf (some m) x := by
  unfold derivOf
  simp only [Option.bind_some, h]

end Go.Proofs.YtpokompplapkhaaGreatDoor
