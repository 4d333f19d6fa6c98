/- The reference's l1Put. -/
import Derived.Test.YtkciljcligohnaaDoorRen4
namespace Go.Proofs.YtkciljcligohnaaDoor
open Go.RowKit
set_option linter.unusedVariables false
set_option linter.unusedSimpArgs false

/-- A type put for a free name, bound names left alone. -/
def putT (nm : List UInt8) (u : NT) : NT → NT
  | .name s => if s = nm then u else .name s
  | .sum a b => .sum (putT nm u a) (putT nm u b)
  | .prod a b => .prod (putT nm u a) (putT nm u b)
  | .loop s a => if s = nm then .loop s a else .loop s (putT nm u a)
  | t => t

theorem new3 (w : World) (o1 o2 o3 : Obj) : (((w.alloc o1).alloc o2).alloc o3).heap[w.heap.size + 2]? = some o3 := by
  have := block_new ((w.alloc o1).alloc o2) o3
  rw [show ((w.alloc o1).alloc o2).heap.size = w.heap.size + 2 by simp] at this
  exact this

/-- What l1Put does. -/
def PPost (w : World) (ok : Nat → Prop) (n : NT) (e : Ending) (w' : World) : Prop :=
  (∃ x A m c, e = .returned (.agg #[.string x, .slice A m c]) ∧ TAt w' (fun k => ok k ∨ w.heap.size ≤ k) n.toTr (.agg #[.string x, .slice A m c])) ∧ Below w.heap.size w w'
def LPt (nm : List UInt8) (u : NT) (n : NT) : Prop := ∀ (v vu : Value) (w : World) (ok : Nat → Prop), (∀ k, ok k → k < w.heap.size) → TAt w ok n.toTr v → TAt w ok u.toTr vu → Calls Tryd.prog 85 #[v, .string (St nm), vu] w (PPost w ok (putT nm u n))

set_option maxHeartbeats 4000000 in
set_option maxRecDepth 100000 in
theorem l1Put_atom (nm s : List UInt8) (hs : s ≠ []) (u f2 : NT) (hf : f2 = if s = nm then u else f2) (hf2 : ¬ s = nm → f2.toTr = .mk s []) (v vu : Value) (w : World) (ok : Nat → Prop) (hok : ∀ k, ok k → k < w.heap.size) (hp : TAt w ok (.mk s []) v) (hu : TAt w ok u.toTr vu) :
    Calls Tryd.prog 85 #[v, .string (St nm), vu] w (PPost w ok f2) := by
  have HP := Lib.hid hp
  have HU := Lib.hid hu
  obtain ⟨A, c, rfl, _⟩ := TAt.parts hp
  obtain ⟨y, By, ny, cy, rfl⟩ := hu.form
  have k0 := St_ne hs
  have HOK := Lib.hid hok
  have HMV : Hid (∀ (t : Tr) (v : Value) (o : Obj), TAt w ok t v → TAt (((w.alloc (.cells #[.string (St s), .slice A 0 c] 43)).alloc (.cells #[.string y, .slice By ny cy] 43)).alloc o) (fun k => ok k ∨ w.heap.size ≤ k) t v) := fun t v o h => h.move fun k hk ho => ⟨.inl ho, (up_alloc (up_alloc (up1 w _) _) _ : Below w.heap.size w _).block k hk⟩
  clear hp hu hs hok
  by_cases h : s = nm
  · have q : (s == nm) = true := by rw [h]; simp
    rw [if_pos h] at hf
    subst hf
    clear h hf2
    go_enter Tryd.func85, Tryd.ntmps85
    go_wp2
    refine bodyPost_ret (v := .agg #[.string y, .slice By ny cy]) (by simp [results, Tryd.results85, go_sem]) rfl ?_
    exact ⟨⟨_, _, _, _, rfl, HMV.out _ _ _ HU.out⟩, up_alloc (up_alloc (up1 w _) _) _⟩
  · have q : (s == nm) = false := St_ne h
    have hf3 := Lib.hid (hf2 h)
    clear h hf2 hf
    go_enter Tryd.func85, Tryd.ntmps85
    go_wp2
    refine bodyPost_ret (v := .agg #[.string (St s), .slice A 0 c]) (by simp [results, Tryd.results85, go_sem]) rfl ?_
    refine ⟨⟨_, _, _, _, rfl, ?_⟩, up_alloc (up_alloc (up1 w _) _) _⟩
    rw [hf3.out]
    exact HMV.out _ _ _ HP.out

end Go.Proofs.YtkciljcligohnaaDoor
