/- Texts of trees, in plain Lean: what is read is what is written. -/
import Derived.Test.YtkciljcligohnaaDoorTyP
namespace Go.Proofs.YtkciljcligohnaaDoor
open Go.RowKit
set_option linter.unusedVariables false
set_option linter.unusedSimpArgs false

mutual
def Tr.txt : Tr → List UInt8
  | .mk s ps => if s = [] then 40 :: Tr.txts ps else s
def Tr.txts : List Tr → List UInt8
  | [] => []
  | t :: ts => t.txt ++ (match ts with | [] => [41] | _ :: _ => 32 :: Tr.txts ts)
end
mutual
def Tr.dep : Tr → Nat
  | .mk s ps => if s = [] then Tr.deps ps + 1 else 0
def Tr.deps : List Tr → Nat
  | [] => 0
  | t :: ts => max t.dep (Tr.deps ts)
end
mutual
def Tr.wf : Tr → Prop
  | .mk s ps => (s ≠ [] ∧ (∀ b ∈ s, atomB b = true) ∧ ps = []) ∨ (s = [] ∧ ps ≠ [] ∧ Tr.wfs ps)
def Tr.wfs : List Tr → Prop
  | [] => True
  | t :: ts => t.wf ∧ Tr.wfs ts
end
def Sep (r : List UInt8) : Prop := ∀ b r', r = b :: r' → atomB b = false

theorem wfs_mem {ts : List Tr} (h : Tr.wfs ts) : ∀ t ∈ ts, t.wf := by
  induction ts with
  | nil => intro t ht; cases ht
  | cons a tl ih =>
    intro t ht
    rcases List.mem_cons.1 ht with rfl | ht
    · exact h.1
    · exact ih h.2 t ht
theorem deps_mem (ts : List Tr) : ∀ t ∈ ts, t.dep ≤ Tr.deps ts := by
  induction ts with
  | nil => intro t ht; cases ht
  | cons a tl ih =>
    intro t ht
    simp only [Tr.deps]
    rcases List.mem_cons.1 ht with rfl | ht
    · exact Nat.le_max_left _ _
    · exact Nat.le_trans (ih t ht) (Nat.le_max_right _ _)
theorem deps_le {ts : List Tr} {d : Nat} (h : ∀ t ∈ ts, t.dep ≤ d) : Tr.deps ts ≤ d := by
  induction ts with
  | nil => simp [Tr.deps]
  | cons a tl ih =>
    simp only [Tr.deps]
    exact Nat.max_le.2 ⟨h a (by simp), ih fun t ht => h t (by simp [ht])⟩
theorem wfs_of {ts : List Tr} (h : ∀ t ∈ ts, t.wf) : Tr.wfs ts := by
  induction ts with
  | nil => trivial
  | cons a tl ih => exact ⟨h a (by simp), ih fun t ht => h t (by simp [ht])⟩
theorem txts_len (ts : List Tr) : ts.length ≤ (Tr.txts ts).length := by
  induction ts with
  | nil => simp
  | cons a tl ih =>
    simp only [Tr.txts, List.length_cons, List.length_append]
    cases tl with
    | nil => simp
    | cons u r =>
      simp only [List.length_cons] at ih ⊢
      omega

theorem rd_atom (d : Nat) (s r : List UInt8) (hs : s ≠ []) (ha : ∀ b ∈ s, atomB b = true) (hr : Sep r) : rd d (s ++ r) = some (.mk s [], r) := by
  have h1 : (s ++ r).takeWhile atomB = s := by
    rw [List.takeWhile_append_of_pos ha]
    cases r with
    | nil => simp
    | cons b r' => rw [List.takeWhile_cons_of_neg (by rw [hr b r' rfl]; simp)]; simp
  have h2 : (s ++ r).dropWhile atomB = r := by
    rw [List.dropWhile_append_of_pos ha]
    cases r with
    | nil => simp
    | cons b r' => rw [List.dropWhile_cons_of_neg (by rw [hr b r' rfl]; simp)]
  unfold rd
  rw [h1, h2, if_pos hs]
theorem rd_list (d : Nat) (r : List UInt8) : rd (d + 1) (40 :: r) = rdLoop (rd d) (r.length + 1) [] r := by
  have h1 : (40 :: r).takeWhile atomB = [] := List.takeWhile_cons_of_neg (by decide)
  rw [rd, h1, if_neg (by simp)]
  simp

theorem loop_txts (f : List UInt8 → Option (Tr × List UInt8)) (r : List UInt8) : ∀ (ps : List Tr) (n : Nat) (acc : List Tr), ps ≠ [] → (∀ t ∈ ps, ∀ r, Sep r → f (t.txt ++ r) = some (t, r)) → ps.length ≤ n →
    rdLoop f n acc (Tr.txts ps ++ r) = some (.mk [] (acc ++ ps), r)
  | [], _, _, h, _, _ => absurd rfl h
  | _ :: _, 0, _, _, _, hn => by simp at hn
  | [t], n + 1, acc, _, hf, hn => by
    have := hf t (by simp) (41 :: r) (fun b r' h => by cases h; decide)
    rw [rdLoop, show Tr.txts [t] ++ r = t.txt ++ 41 :: r by simp [Tr.txts], this]
    simp
  | t :: u :: q, n + 1, acc, _, hf, hn => by
    have := hf t (by simp) (32 :: (Tr.txts (u :: q) ++ r)) (fun b r' h => by cases h; decide)
    rw [rdLoop, show Tr.txts (t :: u :: q) ++ r = t.txt ++ 32 :: (Tr.txts (u :: q) ++ r) by simp [Tr.txts], this]
    simp only
    rw [if_neg (by decide), if_pos trivial, loop_txts f r (u :: q) n (acc ++ [t]) (by simp) (fun t ht => hf t (by simp at ht ⊢; right; exact ht)) (by simp at hn ⊢; omega)]
    simp

theorem rd_txt : ∀ (d : Nat) (t : Tr) (r : List UInt8), t.wf → t.dep ≤ d → Sep r → rd d (t.txt ++ r) = some (t, r)
  | d, .mk s ps, r, hw, hd, hr => by
    rcases hw with ⟨hs, ha, rfl⟩ | ⟨rfl, hps, hws⟩
    · rw [show (Tr.mk s []).txt = s by simp [Tr.txt, hs]]
      exact rd_atom d s r hs ha hr
    · cases d with
      | zero => simp [Tr.dep] at hd
      | succ d =>
        have hd' : Tr.deps ps ≤ d := by simpa [Tr.dep] using hd
        rw [show (Tr.mk [] ps).txt ++ r = 40 :: (Tr.txts ps ++ r) by simp [Tr.txt], rd_list]
        have := loop_txts (rd d) r ps ((Tr.txts ps ++ r).length + 1) [] hps (fun t ht r hr => rd_txt d t r (wfs_mem hws t ht) (Nat.le_trans (deps_mem ps t ht) hd') hr)
          (by have := txts_len ps; rw [List.length_append]; omega)
        simpa using this

theorem loop_inv (f : List UInt8 → Option (Tr × List UInt8)) (d : Nat) (hf : ∀ l t r, f l = some (t, r) → l = t.txt ++ r ∧ t.wf ∧ t.dep ≤ d) : ∀ (n : Nat) (acc : List Tr) (l : List UInt8) (t : Tr) (r : List UInt8), rdLoop f n acc l = some (t, r) →
    ∃ ps, ps ≠ [] ∧ t = .mk [] (acc ++ ps) ∧ l = Tr.txts ps ++ r ∧ (∀ t ∈ ps, t.wf) ∧ (∀ t ∈ ps, t.dep ≤ d)
  | 0, _, _, _, _, h => by simp [rdLoop] at h
  | n + 1, acc, l, t, r, h => by
    unfold rdLoop at h
    split at h
    · rename_i t' b r' hfl
      obtain ⟨h1, h2, h3⟩ := hf _ _ _ hfl
      split at h
      · rename_i hb
        subst hb
        simp only [Option.some.injEq, Prod.mk.injEq] at h
        obtain ⟨rfl, rfl⟩ := h
        exact ⟨[t'], by simp, rfl, by rw [h1]; simp [Tr.txts], by simpa using h2, by simpa using h3⟩
      · split at h
        · rename_i hb
          subst hb
          obtain ⟨ps, hps, rfl, rfl, hw, hd⟩ := loop_inv f d hf n _ _ _ _ h
          refine ⟨t' :: ps, by simp, by simp, ?_, ?_, ?_⟩
          · rw [h1]
            cases ps with
            | nil => exact absurd rfl hps
            | cons u q => simp [Tr.txts]
          · intro t ht
            rcases List.mem_cons.1 ht with rfl | ht
            · exact h2
            · exact hw t ht
          · intro t ht
            rcases List.mem_cons.1 ht with rfl | ht
            · exact h3
            · exact hd t ht
        · simp at h
    · simp at h

theorem rd_inv : ∀ (d : Nat) (l : List UInt8) (t : Tr) (r : List UInt8), rd d l = some (t, r) → l = t.txt ++ r ∧ t.wf ∧ t.dep ≤ d
  | d, l, t, r, h => by
    unfold rd at h
    split at h
    · rename_i h0
      simp only [Option.some.injEq, Prod.mk.injEq] at h
      obtain ⟨rfl, rfl⟩ := h
      refine ⟨?_, .inl ⟨h0, fun b hb => ?_, rfl⟩, by simp [Tr.dep, h0]⟩
      · simp [Tr.txt, h0]
      · exact List.all_eq_true.1 List.all_takeWhile b hb
    · cases d with
      | zero => simp at h
      | succ d =>
        cases l with
        | nil => simp at h
        | cons b r' =>
          simp only at h
          split at h
          · rename_i hb
            subst hb
            obtain ⟨ps, hps, rfl, rfl, hw, hd⟩ := loop_inv (rd d) d (fun l t r h => rd_inv d l t r h) _ _ _ _ _ h
            refine ⟨by simp [Tr.txt], .inr ⟨rfl, by simpa using hps, by simpa using wfs_of hw⟩, ?_⟩
            have := deps_le hd
            simp [Tr.dep]
            exact this
          · simp at h

/-- What a text is, if it is read. -/
theorem rdText_inv {l : List UInt8} {t : Tr} (h : rdText l = some t) : l = t.txt ∧ t.wf ∧ t.dep ≤ 300 ∧ l.length ≤ 8000 := by
  unfold rdText at h
  split at h
  · cases h
  · split at h
    · rename_i hl t' hr
      obtain ⟨h1, h2, h3⟩ := rd_inv _ _ _ _ hr
      cases h
      exact ⟨by simpa using h1, h2, h3, by omega⟩
    · cases h
theorem sep_nil : Sep [] := fun b r' h => by cases h
theorem txt_inj {t u : Tr} (ht : t.wf) (hu : u.wf) (h : t.txt = u.txt) : t = u := by
  have h1 := rd_txt (max t.dep u.dep) t [] ht (Nat.le_max_left _ _) sep_nil
  have h2 := rd_txt (max t.dep u.dep) u [] hu (Nat.le_max_right _ _) sep_nil
  rw [h, h2] at h1
  cases h1
  rfl
/-- What a tree's text is read as. -/
theorem rdText_txt {t : Tr} (ht : t.wf) : rdText t.txt = if t.txt.length ≤ 8000 ∧ t.dep ≤ 300 then some t else none := by
  by_cases h : t.txt.length ≤ 8000 ∧ t.dep ≤ 300
  · rw [if_pos h]
    have := rd_txt 300 t [] ht h.2 sep_nil
    rw [List.append_nil] at this
    unfold rdText
    rw [if_neg (by omega), this]
  · rw [if_neg h]
    cases hr : rdText t.txt with
    | none => rfl
    | some u =>
      obtain ⟨h1, h2, h3, h4⟩ := rdText_inv hr
      obtain rfl := txt_inj ht h2 h1
      exact absurd ⟨h4, h3⟩ h

/-- A sum with 1 behind. -/
theorem rdTy_plus {l : List UInt8} {n : NT} (h : rdTy l = some n) : rdTy ([40, 43, 32] ++ l ++ [32, 49, 41]) = none ∨ rdTy ([40, 43, 32] ++ l ++ [32, 49, 41]) = some (.sum n .one) := by
  unfold rdTy at h
  split at h
  · cases h
  · rename_i t ht
    obtain ⟨rfl, hw, _, _⟩ := rdText_inv ht
    have hT : (Tr.mk [] [.mk [43] [], t, .mk [49] []]).wf := .inr ⟨rfl, by simp, .inl ⟨by simp, by decide, rfl⟩, hw, .inl ⟨by simp, by decide, rfl⟩, trivial⟩
    have htx : [40, 43, 32] ++ t.txt ++ [32, 49, 41] = (Tr.mk [] [.mk [43] [], t, .mk [49] []]).txt := by simp [Tr.txt, Tr.txts]
    rw [htx]
    unfold rdTy
    rw [rdText_txt hT]
    split
    · exact .inl rfl
    · rename_i u hu
      split at hu
      · cases hu
        obtain ⟨h1, h2, h3, h4⟩ := nil_no
        rw [tyOf_three h1 h2 h3 h4]
        split at h
        · cases h
        · rename_i m hm
          split at h
          · cases h
          · cases h
            rw [hm, tyOf_one]
            simp only [tyThree, if_true, tyTwo]
            split
            · exact .inl rfl
            · exact .inr rfl
      · cases hu

end Go.Proofs.YtkciljcligohnaaDoor
