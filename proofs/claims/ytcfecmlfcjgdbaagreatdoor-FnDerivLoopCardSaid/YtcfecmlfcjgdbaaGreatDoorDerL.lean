/- The derivative of what is in a rec, for its name, in plain Lean; of both. -/
import Derived.Test.YtcfecmlfcjgdbaaGreatDoorDerS
import Derived.Test.YtcfecmlfcjgdbaaGreatDoorNam
namespace Go.Proofs.YtcfecmlfcjgdbaaGreatDoor
open Go.RowKit
set_option linter.unusedVariables false
set_option linter.unusedSimpArgs false

def putO (l : List UInt8) (T : Ty) (o : Option Ty) : Option Ty := o.bind fun d => chkO (some (d.put l T))
def LDer (a : Ty) (r : Option Ty) : Prop := ∃ l o, ¬ a.has l ∧ Der (a.opened (.name l) 0) l o ∧ r = putO l (.loop a) o
theorem LDer.func {a : Ty} {r r' : Option Ty} (h : LDer a r) (h' : LDer a r') : r = r' := by
  obtain ⟨l, o, hla, hd, rfl⟩ := h
  obtain ⟨l', o', hla', hd', rfl⟩ := h'
  have hfa : a.mapN (swp l l') = a := mapN_id a fun s hs => swp_other (fun h => hla (h ▸ hs)) (fun h => hla' (h ▸ hs))
  have hop : (a.opened (.name l) 0).mapN (swp l l') = a.opened (.name l') 0 := by
    rw [mapN_opened, hfa]
    simp only [Ty.mapN, swp_l]
  have hd2 := hd.map (swp_inj l l')
  rw [hop, swp_l] at hd2
  have e2 := Der.func _ (Nat.le_refl _) hd2 hd'
  subst e2
  cases o with
  | none => rfl
  | some c =>
    have hcn := fun s => hd.names c s rfl
    have hT : (Ty.loop a).mapN (swp l l') = .loop a := by simp only [Ty.mapN, hfa]
    have h1 := mapN_put (swp_inj l l') l (.loop a) c
    rw [swp_l, hT] at h1
    have key : (c.mapN (swp l l')).put l' (.loop a) = c.put l (.loop a) := by
      rw [← h1]
      refine mapN_id _ fun s hs => ?_
      rcases (put_has l s (.loop a) c).1 hs with ⟨h2, h3⟩ | ⟨_, h2⟩
      · refine swp_other h3 fun h4 => ?_
        subst h4
        rcases (opened_has s (.name l) a 0).2 (hcn s h2) with h5 | h5
        · exact hla' h5
        · exact h3 h5.symm
      · exact swp_other (fun h => hla (h ▸ h2)) (fun h => hla' (h ▸ h2))
    simp only [putO, Option.map_some, Option.bind_some]
    rw [key]
theorem LDer.names {a : Ty} {r : Option Ty} (h : LDer a r) : ∀ d s, r = some d → d.has s → a.has s := by
  obtain ⟨l, o, hla, hd, rfl⟩ := h
  intro d s hr hs
  cases o with
  | none => cases hr
  | some c =>
    have hr : chkO (some (c.put l (.loop a))) = some d := hr
    have := (chkO_some hr).1
    injection this with this
    subst this
    rcases (put_has l s (.loop a) c).1 hs with ⟨h1, h2⟩ | ⟨_, h2⟩
    · rcases (opened_has s (.name l) a 0).2 (hd.names c s rfl h1) with h3 | h3
      · exact h3
      · exact absurd h3.symm h2
    · exact h2
theorem LDer.scoped {a : Ty} {r : Option Ty} (h : LDer a r) (hs : (Ty.loop a).scoped 0) : ∀ d, r = some d → d.scoped 0 := by
  obtain ⟨l, o, hla, hd, rfl⟩ := h
  intro d hr
  cases o with
  | none => cases hr
  | some c =>
    have hr : chkO (some (c.put l (.loop a))) = some d := hr
    have := (chkO_some hr).1
    injection this with this
    subst this
    exact put_scoped l _ hs c 0 (hd.scoped (opened_scoped (.name l) trivial a 0 hs) c rfl)
theorem LDer.atoms {a : Ty} {r : Option Ty} (h : LDer a r) : ∀ d, r = some d → d.atoms ≤ 400 := by
  obtain ⟨l, o, hla, hd, rfl⟩ := h
  intro d hr
  cases o with
  | none => cases hr
  | some c =>
    have hr : chkO (some (c.put l (.loop a))) = some d := hr
    exact (chkO_some hr).2
open Classical in
noncomputable def ldO (a : Ty) : Option Ty := if h : ∃ o, LDer a o then Classical.choose h else none
theorem ldO_eq {a : Ty} {o : Option Ty} (h : LDer a o) : ldO a = o := by
  have he : ∃ o, LDer a o := ⟨o, h⟩
  unfold ldO
  rw [dif_pos he]
  exact LDer.func (Classical.choose_spec he) h
noncomputable def Ty.ld : Ty → Option (List UInt8)
  | .loop a => (ldO a).bind Ty.told
  | _ => none
/-- What DerivLoop gives. -/
noncomputable def derivLoopOf (o : Option NT) : Option (List UInt8) := o.bind fun n => (n.db []).ld

/-- The reference's way: the rec's own name. -/
theorem around_der {s : List UInt8} {b out : NT} {ok : Bool} (hn : (NT.loop s b).ok3) (hna : (NT.loop s b).atoms ≤ 400) (h : DRes b s out ok) :
    (ok = false → LDer (b.db [s]) none) ∧ (ok = true → out.atoms ≤ 400 ∧ (fitsN s (.loop s b) out = false → LDer (b.db [s]) none) ∧ (fitsN s (.loop s b) out = true → (subN s (.loop s b) out).ok3 ∧ (subN s (.loop s b) out).atoms ≤ 400 ∧ LDer (b.db [s]) (some ((subN s (.loop s b) out).db [])))) := by
  have hsp : paramB s = false := hn.1.2
  have hd := h.der
  rw [in_db s hsp b] at hd
  have hla := db_no s hsp b [s] (List.mem_singleton.2 rfl)
  refine ⟨fun hok => ?_, fun hok => ?_⟩
  · rw [hok, if_neg (by simp)] at hd
    exact ⟨s, none, hla, hd, rfl⟩
  · subst hok
    rw [if_pos rfl] at hd
    have ho := hd.atoms _ rfl
    rw [NT.db_atoms] at ho
    have hT : (NT.loop s b).db [] = .loop (b.db [s]) := rfl
    refine ⟨ho, fun hf => ?_, fun hf => ?_⟩
    · rw [fits_put s _ _ h.1, decide_eq_false_iff_not, hT] at hf
      refine ⟨s, _, hla, hd, ?_⟩
      simp only [putO, Option.bind_some]
      rw [chkO_if, if_neg hf]
    · have hfl : (frees [NT.loop s b, .name s]).length ≤ 500 := by
        rw [frees_two, List.length_append]
        have := names_len (NT.loop s b)
        simp
        omega
      have hdb := subN_db s (.loop s b) out h.1
      rw [hT] at hdb
      rw [fits_put s _ _ h.1, decide_eq_true_eq, hT] at hf
      refine ⟨subN_ok3 s _ _ h.1 hn ho hfl, by rw [← NT.db_atoms _ [], hdb]; exact hf, s, _, hla, hd, ?_⟩
      simp only [putO, Option.bind_some]
      rw [chkO_if, if_pos hf, hdb]

end Go.Proofs.YtcfecmlfcjgdbaaGreatDoor
