/- Both orders of two derivatives are as empty. -/
import Derived.Test.YtcfecmlfcjgdbaaGreatDoorTwP
import Derived.Test.YtcfecmlfcjgdbaaGreatDoorDifP
namespace Go.Proofs.YtcfecmlfcjgdbaaGreatDoor
open Go.RowKit
set_option linter.unusedVariables false
set_option linter.unusedSimpArgs false

theorem der_empS {t : Ty} {x : List UInt8} {o : Option Ty} (h : Der t x o) : t.scoped 0 → ∀ d, o = some d → ∀ σ : List UInt8 → Bool, d.empS σ [] = t.noP σ (.nm x) [] := by
  induction h with
  | zero x => intro _ d h σ; cases h; rfl
  | one x => intro _ d h σ; cases h; rfl
  | bound k x => intro _ d h σ; cases h; rfl
  | hit x => intro _ d h σ; cases h; simp [Ty.empS, Ty.noP, Tg.at]
  | miss s x hne => intro _ d h σ; cases h; simp [Ty.empS, Ty.noP, Tg.at, hne]
  | sum a b x oa ob _ _ iha ihb =>
    intro hs d h σ
    obtain ⟨h, _⟩ := chkO_some h
    cases oa with
    | none => cases h
    | some a' =>
      cases ob with
      | none => cases h
      | some b' =>
        cases h
        simp only [Ty.empS, Ty.noP]
        rw [iha hs.1 a' rfl, ihb hs.2 b' rfl]
  | prod a b x oa ob _ _ iha ihb =>
    intro hs d h σ
    obtain ⟨h, _⟩ := chkO_some h
    cases oa with
    | none => cases h
    | some a' =>
      cases ob with
      | none => cases h
      | some b' =>
        cases h
        simp only [Ty.empS, Ty.noP]
        rw [iha hs.1 a' rfl, ihb hs.2 b' rfl]
  | loop a x l oc od hl hla hc0 hd0 ihc ihd =>
    intro hs d h σ
    obtain ⟨h, _⟩ := chkO_some h
    have hop := opened_scoped (.name l) trivial a 0 hs
    cases oc with
    | none => cases h
    | some c =>
      cases od with
      | none => cases h
      | some d' =>
        cases h
        have sc := hc0.scoped hop c rfl
        have h1 : (c.put l (.loop a)).empS σ [true] = (c.put l (.loop a)).empS σ [] := empS_app σ _ [] [true] (put_scoped l _ hs c 0 sc)
        have h2 := empS_put σ l (.loop a) hs c []
        have h3 := ihc hop c rfl (sigP σ l ((Ty.loop a).empS σ []))
        have h4 := noP_opened σ l ((Ty.loop a).empS σ []) a [] (.nm x) (.nm x) (.nm x (fun h => hl h.symm)) hla hs
        show ((c.put l (.loop a)).empS σ [true] && ((d'.put l (.loop a)).empS σ [true] || true)) = _
        rw [Bool.or_true, Bool.and_true, h1, h2, h3]
        exact h4
/-- How long a type's names are at most. -/
def Ty.mx : Ty → Nat
  | .name s => s.length
  | .sum a b => a.mx + b.mx
  | .prod a b => a.mx + b.mx
  | .loop a => a.mx
  | _ => 0
theorem has_mx (s : List UInt8) : ∀ (t : Ty), t.has s → s.length ≤ t.mx
  | .zero, h => h.elim
  | .one, h => h.elim
  | .bound _, h => h.elim
  | .name x, h => by
    have h : x = s := h
    rw [← h]
    exact Nat.le_refl _
  | .sum a b, h => by
    simp only [Ty.mx]
    rcases h with h | h
    · have := has_mx s a h; omega
    · have := has_mx s b h; omega
  | .prod a b, h => by
    simp only [Ty.mx]
    rcases h with h | h
    · have := has_mx s a h; omega
    · have := has_mx s b h; omega
  | .loop a, h => has_mx s a h
theorem fresh_ex (a : Ty) (x y l : List UInt8) : ∃ l2 : List UInt8, ¬ a.has l2 ∧ l2 ≠ x ∧ l2 ≠ y ∧ l2 ≠ l := by
  refine ⟨List.replicate (a.mx + x.length + y.length + l.length + 1) 35, fun h => ?_, fun h => ?_, fun h => ?_, fun h => ?_⟩
  · have := has_mx _ a h
    simp at this
    omega
  · have := congrArg List.length h
    simp at this
    omega
  · have := congrArg List.length h
    simp at this
    omega
  · have := congrArg List.length h
    simp at this
    omega
/-- A rec's derivative, its fresh name not a given one. -/
theorem der_loop_inv {a : Ty} {x : List UInt8} {d : Ty} (h : Der (.loop a) x (some d)) (y : List UInt8) : ∃ l c d', l ≠ x ∧ l ≠ y ∧ ¬ a.has l ∧ Der (a.opened (.name l) 0) x (some c) ∧ Der (a.opened (.name l) 0) l (some d') ∧ d = .loop (.sum (c.put l (.loop a)) (.prod (d'.put l (.loop a)) (.bound 0))) := by
  generalize ho : some d = o at h
  cases h with
  | loop _ _ l oc od hl hla hc hd =>
    obtain ⟨h, _⟩ := chkO_some ho.symm
    cases oc with
    | none => cases h
    | some c =>
      cases od with
      | none => cases h
      | some d' =>
        cases h
        obtain ⟨l2, h1, h2, h3, h4⟩ := fresh_ex a x y l
        have hfa : a.mapN (swp l l2) = a := mapN_id a fun s hs => swp_other (fun h => hla (h ▸ hs)) (fun h => h1 (h ▸ hs))
        have hop : (a.opened (.name l) 0).mapN (swp l l2) = a.opened (.name l2) 0 := by
          rw [mapN_opened, hfa]
          simp only [Ty.mapN, swp_l]
        have hT : (Ty.loop a).mapN (swp l l2) = .loop a := by simp only [Ty.mapN, hfa]
        have hc2 := hc.map (swp_inj l l2)
        rw [hop, swp_other (fun h => hl h.symm) (fun h => h2 h.symm)] at hc2
        have hd2 := hd.map (swp_inj l l2)
        rw [hop, swp_l] at hd2
        have key : ∀ (z : List UInt8) (c : Ty), Der (a.opened (.name l) 0) z (some c) → (c.mapN (swp l l2)).put l2 (.loop a) = c.put l (.loop a) := fun z c hz => by
          have hcn := fun s => hz.names c s rfl
          have h5 := mapN_put (swp_inj l l2) l (.loop a) c
          rw [swp_l, hT] at h5
          rw [← h5]
          refine mapN_id _ fun s hs => ?_
          rcases (put_has l s (.loop a) c).1 hs with ⟨h6, h7⟩ | ⟨_, h6⟩
          · refine swp_other h7 fun h8 => ?_
            subst h8
            rcases (opened_has s (.name l) a 0).2 (hcn s h6) with h9 | h9
            · exact h1 h9
            · exact h7 h9.symm
          · exact swp_other (fun h => hla (h ▸ h6)) (fun h => h1 (h ▸ h6))
        exact ⟨l2, _, _, h2, h3, h1, hc2, hd2, by rw [key x c hc, key l d' hd]⟩
theorem der_noP (σ : List UInt8 → Bool) : ∀ (m : Nat) (t : Ty), t.atoms ≤ m → ∀ (σ : List UInt8 → Bool) (x y : List UInt8) (d : Ty), Der t x (some d) → t.scoped 0 → d.noP σ (.nm y) [] = t.noPP σ (.nm x) (.nm y) [] := by
  intro m
  induction m with
  | zero => intro t h; have := ty_pos t; omega
  | succ m ih =>
    intro t ht σ x y d h hs
    cases t with
    | loop a =>
      obtain ⟨l, c, d', hlx, hly, hla, hc, hd, rfl⟩ := der_loop_inv h y
      simp only [Ty.atoms] at ht
      have hop := opened_scoped (.name l) trivial a 0 hs
      have hat : (a.opened (.name l) 0).atoms ≤ m := by rw [opened_name_atoms]; omega
      have sc := hc.scoped hop c rfl
      have sd := hd.scoped hop d' rfl
      have pc := put_scoped l _ hs c 0 sc
      have pd := put_scoped l _ hs d' 0 sd
      obtain ⟨b, hb⟩ : ∃ b, b = (Ty.loop a).empS σ [] := ⟨_, rfl⟩
      have e1 : (c.put l (.loop a)).empS σ [true] = a.noP σ (.nm x) [b] := by
        rw [show (c.put l (.loop a)).empS σ [true] = (c.put l (.loop a)).empS σ [] from empS_app σ _ [] [true] pc, empS_put σ l (.loop a) hs c [], ← hb, der_empS hc hop c rfl]
        exact noP_opened σ l b a [] (.nm x) (.nm x) (.nm x (fun h => hlx h.symm)) hla hs
      have k1 : c.noP (sigP σ l b) (.nm y) [] = a.noPP σ (.nm x) (.nm y) [b] := by
        rw [ih _ hat (sigP σ l b) x y c hc hop]
        exact noPP_opened σ l b a [] (.nm x) (.nm x) (.nm y) (.nm y) (.nm x (fun h => hlx h.symm)) (.nm y (fun h => hly h.symm)) hla hs
      have k2 : c.noP (sigP σ l b) (.nm l) [] = a.noPP σ (.nm x) (.bd 0) [b] := by
        rw [ih _ hat (sigP σ l b) x l c hc hop]
        exact noPP_opened σ l b a [] (.nm x) (.nm x) (.bd 0) (.nm l) (.nm x (fun h => hlx h.symm)) .here hla hs
      have k3 : d'.noP (sigP σ l b) (.nm y) [] = a.noPP σ (.bd 0) (.nm y) [b] := by
        rw [ih _ hat (sigP σ l b) l y d' hd hop]
        exact noPP_opened σ l b a [] (.bd 0) (.nm l) (.nm y) (.nm y) .here (.nm y (fun h => hly h.symm)) hla hs
      have k4 : d'.noP (sigP σ l b) (.nm l) [] = a.noPP σ (.bd 0) (.bd 0) [b] := by
        rw [ih _ hat (sigP σ l b) l l d' hd hop]
        exact noPP_opened σ l b a [] (.bd 0) (.nm l) (.bd 0) (.nm l) .here .here hla hs
      have k5 : (Ty.loop a).noP σ (.nm y) [] = a.noP σ (.nm y) [b] := by rw [hb]; rfl
      have c1 : ∀ e : Bool, (c.put l (.loop a)).noP σ (.nm y) [e] = (a.noPP σ (.nm x) (.nm y) [b] && (a.noPP σ (.nm x) (.bd 0) [b] || a.noP σ (.nm y) [b])) := fun e => by
        rw [show (c.put l (.loop a)).noP σ (.nm y) [e] = (c.put l (.loop a)).noP σ (.nm y) [] from noP_app σ y _ [] [e] pc, noP_put σ l y (fun h => hly h.symm) (.loop a) hs c [], ← hb, k1, k2, k5]
      have c2 : ∀ e : Bool, (d'.put l (.loop a)).noP σ (.nm y) [e] = (a.noPP σ (.bd 0) (.nm y) [b] && (a.noPP σ (.bd 0) (.bd 0) [b] || a.noP σ (.nm y) [b])) := fun e => by
        rw [show (d'.put l (.loop a)).noP σ (.nm y) [e] = (d'.put l (.loop a)).noP σ (.nm y) [] from noP_app σ y _ [] [e] pd, noP_put σ l y (fun h => hly h.symm) (.loop a) hs d' [], ← hb, k3, k4, k5]
      have hS : (Ty.sum (c.put l (.loop a)) (.prod (d'.put l (.loop a)) (.bound 0))).empS σ [true] = a.noP σ (.nm x) [b] := by
        show ((c.put l (.loop a)).empS σ [true] && ((d'.put l (.loop a)).empS σ [true] || true)) = _
        rw [Bool.or_true, Bool.and_true, e1]
      show (Ty.sum (c.put l (.loop a)) (.prod (d'.put l (.loop a)) (.bound 0))).noP σ (.nm y) [(Ty.sum (c.put l (.loop a)) (.prod (d'.put l (.loop a)) (.bound 0))).empS σ [true]] = _
      rw [hS]
      generalize hE : a.noP σ (.nm x) [b] = e
      show ((c.put l (.loop a)).noP σ (.nm y) [e] && (((d'.put l (.loop a)).noP σ (.nm y) [e] || e) && ((d'.put l (.loop a)).empS σ [e] || true))) = _
      rw [Bool.or_true, Bool.and_true, c1, c2, ← hE, hb]
      rfl
    | sum a b =>
      simp only [Ty.atoms] at ht
      generalize ho : some d = o at h
      cases h with
      | sum _ _ _ oa ob ha hb =>
        obtain ⟨h, _⟩ := chkO_some ho.symm
        cases oa with
        | none => cases h
        | some a' =>
          cases ob with
          | none => cases h
          | some b' =>
            cases h
            simp only [Ty.noP, Ty.noPP]
            rw [ih a (by omega) σ x y a' ha hs.1, ih b (by omega) σ x y b' hb hs.2]
    | prod a b =>
      simp only [Ty.atoms] at ht
      generalize ho : some d = o at h
      cases h with
      | prod _ _ _ oa ob ha hb =>
        obtain ⟨h, _⟩ := chkO_some ho.symm
        cases oa with
        | none => cases h
        | some a' =>
          cases ob with
          | none => cases h
          | some b' =>
            cases h
            simp only [Ty.noP, Ty.noPP]
            rw [ih a (by omega) σ x y a' ha hs.1, ih b (by omega) σ x y b' hb hs.2, der_empS ha hs.1 a' rfl, der_empS hb hs.2 b' rfl]
    | zero => cases h; rfl
    | one => cases h; rfl
    | bound k => cases h; rfl
    | name s =>
      generalize ho : some d = o at h
      cases h with
      | hit => cases ho; rfl
      | miss _ _ h => cases ho; rfl
/-- Both orders leave as many contexts empty. -/
theorem twice_emp {t d1 d2 e1 e2 : Ty} {x y : List UInt8} (hs : t.scoped 0) (h1 : Der t x (some d1)) (h2 : Der d1 y (some d2)) (h3 : Der t y (some e1)) (h4 : Der e1 x (some e2)) : d2.emp = e2.emp := by
  have s1 := h1.scoped hs d1 rfl
  have s3 := h3.scoped hs e1 rfl
  rw [emp_empS d2 [] (by simp), emp_empS e2 [] (by simp), der_empS h2 s1 d2 rfl, der_empS h4 s3 e2 rfl, der_noP (fun _ => false) _ t (Nat.le_refl _) _ x y d1 h1 hs, der_noP (fun _ => false) _ t (Nat.le_refl _) _ y x e1 h3 hs, noPP_comm]

end Go.Proofs.YtcfecmlfcjgdbaaGreatDoor
