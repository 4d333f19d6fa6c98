/- The program's reading of values: readValue, ValueValid, ValueSize. -/
import Derived.Test.YtkciljcligohnaaDoorVal
namespace Go.Proofs.YtkciljcligohnaaDoor
open Go.RowKit
set_option linter.unusedVariables false
set_option linter.unusedSimpArgs false

mutual
def Tr.size : Tr → Nat
  | .mk _ ps => 1 + Tr.sizes ps
def Tr.sizes : List Tr → Nat
  | [] => 0
  | t :: ts => t.size + Tr.sizes ts
end
theorem sizes_append (a b : List Tr) : Tr.sizes (a ++ b) = Tr.sizes a + Tr.sizes b := by
  induction a with
  | nil => simp [Tr.sizes]
  | cons t ts ih => simp only [List.cons_append, Tr.sizes, ih]; omega

theorem rdLoop_size {f : List UInt8 → Option (Tr × List UInt8)} (hf : ∀ l t r, f l = some (t, r) → t.size + r.length ≤ l.length) : ∀ (n : Nat) (acc : List Tr) (l : List UInt8) (t : Tr) (r : List UInt8), rdLoop f n acc l = some (t, r) → t.size + r.length ≤ Tr.sizes acc + l.length
  | 0, _, _, _, _, h => by simp [rdLoop] at h
  | n + 1, acc, l, t, r, h => by
    unfold rdLoop at h
    split at h
    · rename_i t' b r' hfl
      have h1 := hf _ _ _ hfl
      simp only [List.length_cons] at h1
      split at h
      · simp only [Option.some.injEq, Prod.mk.injEq] at h
        obtain ⟨rfl, rfl⟩ := h
        simp only [Tr.size, sizes_append, Tr.sizes]
        omega
      · split at h
        · have h2 := rdLoop_size hf n _ _ _ _ h
          simp only [sizes_append, Tr.sizes] at h2
          omega
        · simp at h
    · simp at h

theorem rd_size : ∀ (d : Nat) (l : List UInt8) (t : Tr) (r : List UInt8), rd d l = some (t, r) → t.size + r.length ≤ l.length
  | 0, l, t, r, h => by
    have hlen := rd_len _ _ _ _ h
    unfold rd at h
    split at h
    · simp only [Option.some.injEq, Prod.mk.injEq] at h
      obtain ⟨rfl, rfl⟩ := h
      simp only [Tr.size, Tr.sizes]
      omega
    · simp at h
  | d + 1, l, t, r, h => by
    have hlen := rd_len _ _ _ _ h
    unfold rd at h
    split at h
    · simp only [Option.some.injEq, Prod.mk.injEq] at h
      obtain ⟨rfl, rfl⟩ := h
      simp only [Tr.size, Tr.sizes]
      omega
    · cases l with
      | nil => simp at h
      | cons b r' =>
        simp only at h
        split at h
        · have := rdLoop_size (rd_size d) _ _ _ _ _ h
          simp only [Tr.sizes, List.length_cons] at *
          omega
        · simp at h

theorem rdText_size {l : List UInt8} {t : Tr} (h : rdText l = some t) : t.size ≤ 8000 := by
  unfold rdText at h
  split at h
  · simp at h
  · split at h
    · rename_i h1
      simp only [Option.some.injEq] at h
      subst h
      have := rd_size _ _ _ _ h1
      simp at this
      omega
    · simp at h

theorem valThree_l (h : List UInt8) (y : Option V) : valThree h none y = none := by unfold valThree; split <;> rfl
theorem valThree_r (h : List UInt8) (x : Option V) : valThree h x none = none := by unfold valThree; split <;> cases x <;> rfl

theorem valOf_nodes : ∀ (t : Tr) (v : V), valOf t = some v → v.nodes ≤ t.size
  | .mk s [.mk h q, a], v, hv => by
    simp only [valOf, atomV] at hv
    simp only [Tr.size, Tr.sizes]
    split at hv
    · simp only [Option.some.injEq] at hv; subst hv; simp only [V.nodes]; omega
    · split at hv
      · simp only [Option.some.injEq] at hv; subst hv; simp only [V.nodes]; omega
      · unfold valTwo at hv
        have ih := valOf_nodes a
        cases ha : valOf a with
        | none => rw [ha] at hv; (repeat' split at hv) <;> simp at hv
        | some x =>
          have := ih x ha
          rw [ha] at hv
          (repeat' split at hv) <;> simp at hv <;> subst hv <;> simp only [V.nodes] <;> omega
  | .mk s [.mk h q, a, b], v, hv => by
    simp only [valOf, atomV] at hv
    simp only [Tr.size, Tr.sizes]
    split at hv
    · simp only [Option.some.injEq] at hv; subst hv; simp only [V.nodes]; omega
    · split at hv
      · simp only [Option.some.injEq] at hv; subst hv; simp only [V.nodes]; omega
      · have iha := valOf_nodes a
        have ihb := valOf_nodes b
        cases ha : valOf a with
        | none => rw [ha, valThree_l] at hv; simp at hv
        | some x =>
          cases hb : valOf b with
          | none => rw [hb, valThree_r] at hv; simp at hv
          | some y =>
            have := iha x ha
            have := ihb y hb
            rw [ha, hb] at hv
            unfold valThree at hv
            split at hv
            · simp at hv; subst hv; simp only [V.nodes]; omega
            · simp at hv
  | .mk s [], v, hv => by
    simp only [valOf, atomV] at hv
    (repeat' split at hv) <;> simp at hv <;> subst hv <;> simp only [V.nodes, Tr.size] <;> omega
  | .mk s [_], v, hv => by
    simp only [valOf, atomV] at hv
    (repeat' split at hv) <;> simp at hv <;> subst hv <;> simp only [V.nodes, Tr.size] <;> omega
  | .mk s (_ :: _ :: _ :: _ :: _), v, hv => by
    simp only [valOf, atomV] at hv
    (repeat' split at hv) <;> simp at hv <;> subst hv <;> simp only [V.nodes, Tr.size] <;> omega

/-- A value's text. -/
def rdVal (l : List UInt8) : Option V := match rdText l with
  | none => none
  | some t => match valOf t with
    | none => none
    | some v => if 200 < v.nodes then none else some v

theorem rdVal_nodes {l : List UInt8} {v : V} (h : rdVal l = some v) : v.nodes ≤ 200 := by
  unfold rdVal at h
  (repeat' split at h) <;> simp at h
  subst h
  omega

set_option maxHeartbeats 1000000 in
theorem readValue_any (s : ByteArray) (w : World) (hs : s.size ≤ 9223372036854775807) : Calls Tryd.prog 68 #[.string s] w (VPost w (rdVal s.data.toList)) := by
  have ht := readText_any s w hs
  clear hs
  unfold rdVal
  cases hr : rdText s.data.toList with
  | none =>
    rw [hr] at ht
    replace ht : Calls Tryd.prog 80 #[.string s] w (fun e w' => Below w.heap.size w w' ∧ e = .returned (.pointer none)) := ht
    go_enter Tryd.func68, Tryd.ntmps68
    go_wp2_with (go_at_call 80; refine ht.mono ?_; rintro e w1 ⟨hb1, rfl⟩)
    go_ret
    exact .none_ hb1
  | some t =>
    have hsz := rdText_size hr
    have hn := valOf_nodes t
    rw [hr] at ht
    replace ht : Calls Tryd.prog 80 #[.string s] w (fun e w' => Below w.heap.size w w' ∧ ∃ p, e = .returned (.pointer p) ∧ EAt w' (fun _ => True) t p) := ht
    have hv := valOf_any t
    clear hr
    simp only
    cases hval : valOf t with
    | none =>
      rw [hval] at hv
      have HV : Hid (∀ (w : World) (p : Option Addr), EAt w (fun _ => True) t p → Calls Tryd.prog 96 #[.pointer p] w (fun e w' => Below w.heap.size w w' ∧ e = .returned (.pointer none))) := hv
      clear hn hsz hv hval
      go_enter Tryd.func68, Tryd.ntmps68
      go_wp2_with (first
        | (go_at_call 80; refine ht.mono ?_; rintro e w1 ⟨hb1, p, rfl, hp⟩; obtain ⟨g, rfl⟩ := hp.some_; have HP := Lib.hid hp; have HB1 := Lib.hid hb1; clear hp hb1)
        | (go_at_call 96; refine (HV.out _ _ HP.out).mono ?_; rintro e w2 ⟨hb2, rfl⟩))
      go_ret
      exact .none_ (up_trans HB1.out hb2)
    | some v =>
      have hvn := hn v hval
      rw [hval] at hv
      have HV : Hid (∀ (w : World) (p : Option Addr), EAt w (fun _ => True) t p → Calls Tryd.prog 96 #[.pointer p] w (fun e w' => Below w.heap.size w w' ∧ ∃ p, e = .returned (.pointer p) ∧ VAt w' v p)) := hv
      have HN := Lib.hid fun w p h => nodes_any v w p h (by omega)
      clear hn hv hval
      simp only
      by_cases h200 : 200 < v.nodes
      · rw [if_pos h200]
        generalize v.nodes = n at *
        go_enter Tryd.func68, Tryd.ntmps68
        go_wp2_with (first
          | (go_at_call 80; refine ht.mono ?_; rintro e w1 ⟨hb1, p, rfl, hp⟩; obtain ⟨g, rfl⟩ := hp.some_; have HP := Lib.hid hp; have HB1 := Lib.hid hb1; clear hp hb1)
          | (go_at_call 96; refine (HV.out _ _ HP.out).mono ?_; rintro e w2 ⟨hb2, p2, rfl, hp2⟩; obtain ⟨g2, rfl⟩ := hp2.some_; have HP2 := Lib.hid hp2; have HB2 := Lib.hid (up_trans HB1.out hb2); clear hp2 hb2)
          | (go_at_call 69; refine (HN.out _ _ HP2.out).mono ?_; rintro e w' ⟨rfl, rfl⟩))
        go_ret
        exact .none_ HB2.out
      · rw [if_neg h200]
        generalize v.nodes = n at *
        go_enter Tryd.func68, Tryd.ntmps68
        go_wp2_with (first
          | (go_at_call 80; refine ht.mono ?_; rintro e w1 ⟨hb1, p, rfl, hp⟩; obtain ⟨g, rfl⟩ := hp.some_; have HP := Lib.hid hp; have HB1 := Lib.hid hb1; clear hp hb1)
          | (go_at_call 96; refine (HV.out _ _ HP.out).mono ?_; rintro e w2 ⟨hb2, p2, rfl, hp2⟩; obtain ⟨g2, rfl⟩ := hp2.some_; have HP2 := Lib.hid hp2; have HB2 := Lib.hid (up_trans HB1.out hb2); clear hp2 hb2)
          | (go_at_call 69; refine (HN.out _ _ HP2.out).mono ?_; rintro e w' ⟨rfl, rfl⟩))
        go_ret
        exact .some_ HB2.out HP2.out

theorem ValueValid_any (s : ByteArray) (w : World) (hs : s.size ≤ 9223372036854775807) :
    Calls Tryd.prog 41 #[.string s] w fun e w' => e = .returned (.bool (rdVal s.data.toList).isSome) ∧ Below w.heap.size w w' := by
  have hv := (readValue_any s w hs).mono fun _ _ h => h.vp
  clear hs
  generalize rdVal s.data.toList = o at *
  cases o with
  | none =>
    go_enter Tryd.func41, Tryd.ntmps41
    go_wp2_with (go_at_call 68; refine hv.mono ?_; rintro e w1 ⟨hb1, p, rfl, hp⟩; obtain rfl : p = none := hp)
    go_ret
    exact ⟨rfl, hb1⟩
  | some v =>
    go_enter Tryd.func41, Tryd.ntmps41
    go_wp2_with (go_at_call 68; refine hv.mono ?_; rintro e w1 ⟨hb1, p, rfl, hp⟩; obtain ⟨g, rfl⟩ := VAt.some_ hp)
    go_ret
    exact ⟨rfl, hb1⟩

/-- The number of nodes, or -1. -/
def sizeOfV : Option V → Int
  | none => -1
  | some v => v.nodes

theorem ValueSize_any (s : ByteArray) (w : World) (hs : s.size ≤ 9223372036854775807) :
    Calls Tryd.prog 38 #[.string s] w fun e w' => e = .returned (.int .i64 (sizeOfV (rdVal s.data.toList))) ∧ Below w.heap.size w w' := by
  have hv := (readValue_any s w hs).mono fun _ _ h => h.vp
  have hn := fun v h => rdVal_nodes (l := s.data.toList) (v := v) h
  clear hs
  generalize rdVal s.data.toList = o at *
  cases o with
  | none =>
    clear hn
    go_enter Tryd.func38, Tryd.ntmps38
    go_wp2_with (go_at_call 68; refine hv.mono ?_; rintro e w1 ⟨hb1, p, rfl, hp⟩; obtain rfl : p = none := hp)
    go_ret
    exact ⟨rfl, hb1⟩
  | some v =>
    have HN := Lib.hid fun w p h => nodes_any v w p h (by have := hn v rfl; omega)
    clear hn
    go_enter Tryd.func38, Tryd.ntmps38
    go_wp2_with (first
      | (go_at_call 68; refine hv.mono ?_; rintro e w1 ⟨hb1, p, rfl, hp⟩; obtain ⟨g, rfl⟩ := VAt.some_ hp; have HP : Hid (VAt _ v _) := hp; clear hp)
      | (go_at_call 69; refine (HN.out _ _ HP.out).mono ?_; rintro e w' ⟨rfl, rfl⟩))
    go_ret
    exact ⟨rfl, hb1⟩

end Go.Proofs.YtkciljcligohnaaDoor
