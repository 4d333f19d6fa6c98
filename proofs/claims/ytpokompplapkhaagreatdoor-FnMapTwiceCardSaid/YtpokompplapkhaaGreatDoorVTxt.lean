/- Values as texts, read back: the plain law. -/
import Derived.Test.YtpokompplapkhaaGreatDoorMC
import Derived.Test.YtpokompplapkhaaGreatDoorVOk
import Derived.Test.YtpokompplapkhaaGreatDoorMB
import Derived.Test.YtpokompplapkhaaGreatDoorMI
namespace Go.Proofs.YtpokompplapkhaaGreatDoor
open Go.RowKit
set_option linter.unusedVariables false
set_option linter.unusedSimpArgs false

theorem elemB_form {s : List UInt8} (h : elemB s = true) : s ≠ [] ∧ s ≠ [117] ∧ (∀ b ∈ s, atomB b = true) ∧ s.length ≤ 3 := by
  rcases s with _ | ⟨e, _ | ⟨a, _ | ⟨b, _ | ⟨c, r⟩⟩⟩⟩
  · cases h
  · cases h
  · simp only [elemB, Bool.and_eq_true, beq_iff_eq] at h
    obtain ⟨rfl, ha⟩ := h
    refine ⟨by simp, by simp, fun b hb => ?_, by simp⟩
    simp only [List.mem_cons, List.mem_nil_iff, or_false] at hb
    rcases hb with rfl | rfl
    · decide
    · exact digit_atom ha
  · simp only [elemB, Bool.and_eq_true, beq_iff_eq] at h
    obtain ⟨⟨rfl, ha, hb⟩, _⟩ := h
    refine ⟨by simp, by simp, fun c hc => ?_, by simp⟩
    simp only [List.mem_cons, List.mem_nil_iff, or_false] at hc
    rcases hc with rfl | rfl | rfl
    · decide
    · exact digit_atom ha
    · exact digit_atom hb
  · cases h
theorem V.wf : ∀ {v : V}, v.ok → v.toTr.wf
  | .u, _ => .inl ⟨by simp, by decide, rfl⟩
  | .el s, h => .inl ⟨(elemB_form h).1, (elemB_form h).2.2.1, rfl⟩
  | .l a, h => .inr ⟨rfl, by simp, .inl ⟨by simp, by decide, rfl⟩, V.wf (v := a) h, trivial⟩
  | .r a, h => .inr ⟨rfl, by simp, .inl ⟨by simp, by decide, rfl⟩, V.wf (v := a) h, trivial⟩
  | .f a, h => .inr ⟨rfl, by simp, .inl ⟨by simp, by decide, rfl⟩, V.wf (v := a) h, trivial⟩
  | .p a b, h => .inr ⟨rfl, by simp, .inl ⟨by simp, by decide, rfl⟩, V.wf h.1, V.wf h.2, trivial⟩
theorem valOf_v : ∀ {v : V}, v.ok → valOf v.toTr = some v
  | .u, _ => valOf_u []
  | .el s, h => valOf_el (elemB_form h).2.1 h []
  | .l a, h => by rw [V.toTr, valOf_two (by simp) elemB_nil, valOf_v (v := a) h]; rfl
  | .r a, h => by rw [V.toTr, valOf_two (by simp) elemB_nil, valOf_v (v := a) h]; rfl
  | .f a, h => by rw [V.toTr, valOf_two (by simp) elemB_nil, valOf_v (v := a) h]; rfl
  | .p a b, h => by rw [V.toTr, valOf_three (by simp) elemB_nil, valOf_v h.1, valOf_v h.2]; rfl
theorem V.pos (v : V) : 1 ≤ v.nodes := by cases v <;> simp only [V.nodes] <;> omega
theorem V.dep_nodes : ∀ {v : V}, v.ok → v.toTr.dep ≤ v.nodes
  | .u, _ => by simp [V.toTr, Tr.dep]
  | .el s, h => by
    have := (elemB_form h).1
    simp [V.toTr, Tr.dep, this]
  | .l a, h => by have := V.dep_nodes (v := a) h; have := V.pos a; simp only [V.toTr, Tr.dep, Tr.deps, V.nodes]; simp; omega
  | .r a, h => by have := V.dep_nodes (v := a) h; have := V.pos a; simp only [V.toTr, Tr.dep, Tr.deps, V.nodes]; simp; omega
  | .f a, h => by have := V.dep_nodes (v := a) h; have := V.pos a; simp only [V.toTr, Tr.dep, Tr.deps, V.nodes]; simp; omega
  | .p a b, h => by have := V.dep_nodes h.1; have := V.dep_nodes h.2; have := V.pos a; have := V.pos b; simp only [V.toTr, Tr.dep, Tr.deps, V.nodes]; simp; omega
theorem V.len_nodes : ∀ {v : V}, v.ok → v.toTr.txt.length ≤ 5 * v.nodes
  | .u, _ => by simp [V.toTr, Tr.txt, V.nodes]
  | .el s, h => by
    have h1 := (elemB_form h).1
    have h2 := (elemB_form h).2.2.2
    simp only [V.toTr, Tr.txt, V.nodes, if_neg h1]; omega
  | .l a, h => by have := V.len_nodes (v := a) h; simp [V.toTr, Tr.txt, Tr.txts, V.nodes]; omega
  | .r a, h => by have := V.len_nodes (v := a) h; simp [V.toTr, Tr.txt, Tr.txts, V.nodes]; omega
  | .f a, h => by have := V.len_nodes (v := a) h; simp [V.toTr, Tr.txt, Tr.txts, V.nodes]; omega
  | .p a b, h => by have := V.len_nodes h.1; have := V.len_nodes h.2; simp [V.toTr, Tr.txt, Tr.txts, V.nodes]; omega
/-- A value's text, read. -/
theorem rdVal_txt {v : V} (h : v.ok) : rdVal v.toTr.txt = if 200 < v.nodes then none else some v := by
  unfold rdVal
  have h1 := V.dep_nodes h
  have h2 := V.len_nodes h
  rw [rdText_txt (V.wf h)]
  by_cases hn : 200 < v.nodes
  · rw [if_pos hn]
    split
    · rfl
    · rename_i t ht
      split at ht
      · cases ht
        rw [valOf_v h]
        simp only
        rw [if_pos hn]
      · cases ht
  · rw [if_neg hn, if_pos ⟨by omega, by omega⟩]
    simp only
    rw [valOf_v h]
    simp only
    rw [if_neg hn]
theorem rdVal_tr {l : List UInt8} {v : V} (h : rdVal l = some v) : l = v.toTr.txt ∧ v.ok ∧ v.nodes ≤ 200 := by
  have hn := rdVal_nodes h
  unfold rdVal at h
  split at h
  · cases h
  · rename_i t ht
    obtain ⟨h1, hw, hd, hl⟩ := rdText_inv ht
    split at h
    · cases h
    · rename_i m hm
      split at h
      · cases h
      · cases h
        have h2 := valOf_toTr t v (wf_okT hw) hm
        exact ⟨by rw [h1, h2], valOf_ok t v hm, hn⟩
theorem V.txt_inj {v w : V} (hv : v.ok) (hw : w.ok) (h : v.toTr.txt = w.toTr.txt) : v = w := by
  have h1 := Go.Proofs.YtpokompplapkhaaGreatDoor.txt_inj (V.wf hv) (V.wf hw) h
  have h2 := valOf_v hv
  rw [h1, valOf_v hw] at h2
  exact (Option.some.inj h2).symm

end Go.Proofs.YtpokompplapkhaaGreatDoor
