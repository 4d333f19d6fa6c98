/- l1Rename: atoms. -/
import Derived.Test.YtkciljcligohnaaDoorRenP
namespace Go.Proofs.YtkciljcligohnaaDoor
open Go.RowKit
set_option linter.unusedVariables false
set_option linter.unusedSimpArgs false

/-- The giver of names: its block. -/
def NAt (w : World) (r : Nat) (free : List (List UInt8)) (k : Nat) : Prop :=
  ∃ F c, w.heap[r]? = some (.cells #[.slice F free.length c, .int .i64 k] 97 (0, 0)) ∧ SFar w F r free
theorem NAt.up {w w1 : World} {r : Nat} {free : List (List UInt8)} {k : Nat} (h : NAt w r free k) (hb : Below w.heap.size w w1) : NAt w1 r free k := by
  obtain ⟨F, c, h1, h2⟩ := h
  exact ⟨F, c, block_up hb h1, h2.up hb⟩
theorem NAt.lt {w : World} {r : Nat} {free : List (List UInt8)} {k : Nat} (h : NAt w r free k) : r < w.heap.size := by
  obtain ⟨F, c, h1, h2⟩ := h
  exact lt_of_block h1

theorem sub_drop {s : List UInt8} {env : List (List UInt8 × List UInt8)} {p : List UInt8 × List UInt8} {r : List (List UInt8 × List UInt8)} {j : Nat} (hk : env.drop j = p :: r) (h : sub s env = sub s (env.drop j)) :
    (p.1 = s → sub s env = p.2) ∧ (p.1 ≠ s → sub s env = sub s (env.drop (j + 1))) := by
  have hr : env.drop (j + 1) = r := by rw [← List.drop_drop, hk]; rfl
  obtain ⟨a, b⟩ := p
  constructor
  · intro he
    rw [h, hk, sub, if_pos he]
  · intro he
    rw [h, hk, sub, if_neg he, hr]

set_option maxHeartbeats 8000000 in
set_option maxRecDepth 100000 in
theorem l1Rename_atom (s : List UInt8) (hs : s ≠ []) (env : List (List UInt8 × List UInt8)) (v : Value) (w : World) (A : Option Addr) (c : Nat) (B : Option Addr) (d : Nat) (np : Value) (hp : ∃ ok, TAt w ok (.mk s []) v) (hA : SCells w A (env.reverse.map (·.1))) (hB : SCells w B (env.reverse.map (·.2))) (hl : env.length ≤ 100000) :
    Calls Tryd.prog 100 #[v, .slice A env.length c, .slice B env.length d, np] w fun e w' => (∃ A' c', e = .returned (.agg #[.string (St (sub s env)), .slice A' 0 c'])) ∧ Below w.heap.size w w' := by
  obtain ⟨ok, hp⟩ := hp
  obtain ⟨A', c', rfl, _⟩ := TAt.parts hp
  have k0 := St_ne hs
  have HE : Hid (∀ w1, Below w.heap.size w w1 → SCells w1 A (env.reverse.map (·.1)) ∧ SCells w1 B (env.reverse.map (·.2))) := fun w1 hb => ⟨hA.up hb, hB.up hb⟩
  have HN : Hid (env.length ≤ 100000) := hl
  clear hp hA hB hs hl
  obtain ⟨res, hres⟩ : ∃ res, res = sub s env := ⟨_, rfl⟩
  rw [← hres]
  have HRES := Lib.hid hres
  clear hres
  obtain ⟨n, hnl⟩ : ∃ n, n = env.length := ⟨_, rfl⟩
  rw [← hnl]
  have HNL := Lib.hid hnl
  clear hnl
  go_enter Tryd.func100, Tryd.ntmps100
  go_wp2
  go_loopg [9] n (fun m v9 wr => v9 = .int .i64 ((m : Int) - 1) ∧ Hid (∃ j, m + j = n ∧ sub s env = sub s (env.drop j)) ∧ Hid (Below w.heap.size w wr) ∧ Hid (wr.heap[w.heap.size]? = some (.cells #[.string (St s), .slice A' 0 c'] 43 (0, 0))) ∧ Hid (wr.heap[w.heap.size + 1]? = some (.cells #[.string (St []), .slice none 0 0] 43 (0, 0))))
  case atStart => exact ⟨by rw [w64 (by omega) (by have := HN.out; have := HNL.out; omega)], ⟨0, by omega, by simp⟩, up_alloc (up1 w _) _, old2 w _ _, new2 w _ _⟩
  case round =>
    obtain ⟨rfl, HK, HB, HX, HR⟩ := hrel
    obtain ⟨j, hj, hsub⟩ := HK.out
    obtain ⟨hcA, hcB⟩ := HE.out wr HB.out
    have hlen := HNL.out
    have e0 : wr.cell? ⟨w.heap.size, 0, none⟩ = some (.string (St s)) := block_cell HX.out 0
    have e1 : wr.cell? ⟨w.heap.size, 1, none⟩ = some (.slice A' 0 c') := block_cell HX.out 1
    have r0 : wr.cell? ⟨w.heap.size + 1, 0, none⟩ = some (.string (St [])) := block_cell HR.out 0
    have r1 : wr.cell? ⟨w.heap.size + 1, 1, none⟩ = some (.slice none 0 0) := block_cell HR.out 1
    have f0 := block_free HR.out 0
    have f1 := block_free HR.out 1
    have lr := lt_of_block HR.out
    cases gk with
    | zero =>
      have hv : sub s env = s := by rw [hsub, List.drop_of_length_le (by omega)]; rfl
      obtain rfl : res = s := HRES.out.trans hv
      clear hj hsub hcA hcB HK hlen hv
      go_wp2
      refine bodyPost_ret (v := .agg #[.string (St res), .slice A' 0 c']) (by simp [results, Tryd.results100, go_sem, r0, r1, lr]) rfl ?_
      exact ⟨⟨_, _, rfl⟩, by repeat (first | exact HB.out | refine up_drew ?_ | refine set0 ?_ (Nat.le_succ _))⟩
    | succ m =>
      have hi : (((m + 1 : Nat) : Int) - 1) = (m : Int) := by omega
      rw [hi]
      have hjl : j < env.length := by omega
      have hdrop : env.drop j = env[j] :: env.drop (j + 1) := List.drop_eq_getElem_cons hjl
      have hld := sub_drop hdrop hsub
      have hrev : env.reverse[m]? = some env[j] := by
        rw [List.getElem?_reverse (by omega), List.getElem?_eq_getElem (by omega)]
        congr 2
        omega
      have hgA : (env.reverse.map (·.1))[m]? = some (env[j]).1 := by rw [List.getElem?_map, hrev]; rfl
      have hgB : (env.reverse.map (·.2))[m]? = some (env[j]).2 := by rw [List.getElem?_map, hrev]; rfl
      rcases hcA with hcA | ⟨ga, oa, rfl, hcA⟩
      · rw [hcA] at hgA; cases hgA
      rcases hcB with hcB | ⟨gb, ob, rfl, hcB⟩
      · rw [hcB] at hgB; cases hgB
      have d1 := hcA m _ hgA
      have d2 := hcB m _ hgB
      have hmn : m < n := by omega
      have hmn2 : (m : Int) < (n : Int) := by omega
      generalize (env[j]).1 = y at *
      generalize (env[j]).2 = z at *
      by_cases hys : y = s
      · have hv := hld.1 hys
        have q1 : (y == s) = true := by rw [hys]; simp
        obtain rfl : res = z := HRES.out.trans hv
        clear hj hsub hcA hcB HK hlen hi hjl hdrop hld hrev hgA hgB hys hv
        go_wp2
        go_region
        go_wp2
        refine bodyPost_ret (v := .agg #[.string (St res), .slice none 0 0]) (by simp [results, Tryd.results100, go_sem, r0, r1, lr]) rfl ?_
        exact ⟨⟨_, _, rfl⟩, by repeat (first | exact HB.out | refine up_drew ?_ | refine set0 ?_ (Nat.le_succ _))⟩
      · have q1 : (y == s) = false := St_ne hys
        have HK2 : Hid (∃ j, m + j = n ∧ sub s env = sub s (env.drop j)) := ⟨j + 1, by omega, hld.2 hys⟩
        clear hj hsub hcA hcB HK hlen hi hjl hdrop hld hrev hgA hgB hys
        go_wp2
        go_region
        go_wp2
        go_roundg m
        case measure => omega
        case rel => exact ⟨by rw [w64 (by omega) (by have := HN.out; have := HNL.out; omega)], HK2, up_drew HB.out, HX.out, HR.out⟩

end Go.Proofs.YtkciljcligohnaaDoor
