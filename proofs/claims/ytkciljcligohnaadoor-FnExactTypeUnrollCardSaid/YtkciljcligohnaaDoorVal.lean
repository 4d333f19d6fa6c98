/- The program's values: valOf, pair, nodes, elements, readValue. -/
import Derived.Test.YtkciljcligohnaaDoorNames
namespace Go.Proofs.YtkciljcligohnaaDoor
open Go.RowKit
set_option linter.unusedVariables false
set_option linter.unusedSimpArgs false

def atomV (s : List UInt8) (rest : Option V) : Option V := if s = [117] then some .u else if elemB s = true then some (.el s) else rest
def valTwo (h : List UInt8) (x : Option V) : Option V := if h = [108] then x.map .l else if h = [114] then x.map .r else if h = [102] then x.map .f else none
def valThree (h : List UInt8) (x y : Option V) : Option V := if h = [112] then (match x, y with | some x, some y => some (.p x y) | _, _ => none) else none
/-- The value of what is read. -/
def valOf : Tr → Option V
  | .mk s [.mk h _, a] => atomV s (valTwo h (valOf a))
  | .mk s [.mk h _, a, b] => atomV s (valThree h (valOf a) (valOf b))
  | .mk s _ => atomV s none

theorem valOf_u (ps : List Tr) : valOf (.mk [117] ps) = some .u := by
  rcases ps with _ | ⟨⟨h, q⟩, _ | ⟨a, _ | ⟨b, _ | ⟨c, r⟩⟩⟩⟩ <;> simp [valOf, atomV]
theorem valOf_el {s : List UInt8} (hs : s ≠ [117]) (he : elemB s = true) (ps : List Tr) : valOf (.mk s ps) = some (.el s) := by
  rcases ps with _ | ⟨⟨h, q⟩, _ | ⟨a, _ | ⟨b, _ | ⟨c, r⟩⟩⟩⟩ <;> simp [valOf, atomV, hs, he]
theorem valOf_two {s : List UInt8} (hs : s ≠ [117]) (he : elemB s = false) (h : List UInt8) (q : List Tr) (a : Tr) : valOf (.mk s [.mk h q, a]) = valTwo h (valOf a) := by
  simp [valOf, atomV, hs, he]
theorem valOf_three {s : List UInt8} (hs : s ≠ [117]) (he : elemB s = false) (h : List UInt8) (q : List Tr) (a b : Tr) : valOf (.mk s [.mk h q, a, b]) = valThree h (valOf a) (valOf b) := by
  simp [valOf, atomV, hs, he]
theorem valOf_no {s : List UInt8} (hs : s ≠ [117]) (he : elemB s = false) (ps : List Tr) (h2 : ps.length ≠ 2) (h3 : ps.length ≠ 3) : valOf (.mk s ps) = none := by
  rcases ps with _ | ⟨⟨h, q⟩, _ | ⟨a, _ | ⟨b, _ | ⟨c, r⟩⟩⟩⟩ <;> simp [valOf, atomV, hs, he] <;> simp at h2 h3

def V.nodes : V → Nat
  | .u => 1
  | .el _ => 1
  | .l a => 1 + a.nodes
  | .r a => 1 + a.nodes
  | .f a => 1 + a.nodes
  | .p a b => 1 + a.nodes + b.nodes

def V.elems : V → List (List UInt8)
  | .u => []
  | .el s => [s]
  | .l a => a.elems
  | .r a => a.elems
  | .f a => a.elems
  | .p a b => a.elems ++ b.elems

/-- What a call that makes a value does. -/
def VPost (w : World) (o : Option V) (e : Ending) (w' : World) : Prop :=
  Below w.heap.size w w' ∧ match o with
    | some v => ∃ p, e = .returned (.pointer p) ∧ VAt w' v p
    | none => e = .returned (.pointer none)
theorem VPost.none_ {w w' : World} (h : Below w.heap.size w w') : VPost w none (.returned (.pointer none)) w' := ⟨h, rfl⟩
theorem VPost.some_ {w w' : World} {v : V} {p : Option Addr} (h : Below w.heap.size w w') (hp : VAt w' v p) : VPost w (some v) (.returned (.pointer p)) w' := ⟨h, p, rfl, hp⟩

theorem VN_new (w : World) (sg : Int) (el : List UInt8) (pa pb : Option Addr) : VN (w.alloc (.cells #[.int .u8 sg, .string (St el), .pointer pa, .pointer pb] 90)) (some ⟨w.heap.size, 0, none⟩) sg el pa pb := ⟨_, rfl, block_new w _⟩

theorem pair_any (a b : V) (pa pb : Option Addr) (w : World) (ha : VAt w a pa) (hb : VAt w b pb) :
    Calls Tryd.prog 112 #[.pointer pa, .pointer pb] w (VPost w (some (.p a b))) := by
  have HA := Lib.hid ha
  have HB := Lib.hid hb
  clear ha hb
  go_enter Tryd.func112, Tryd.ntmps112
  go_wp2
  go_ret
  exact .some_ (up1 w _) ⟨pa, pb, VN_new w _ _ _ _, HA.out.up (up1 w _), HB.out.up (up1 w _)⟩

theorem nodes_any (v : V) : ∀ (w : World) (p : Option Addr), VAt w v p → v.nodes ≤ 1000000000 →
    Calls Tryd.prog 69 #[.pointer p] w fun e w' => e = .returned (.int .i64 v.nodes) ∧ w = w' := by
  induction v with
  | u =>
    rintro w p ⟨g, rfl, hb⟩ hn
    have c2 : w.cell? ⟨g, 2, none⟩ = some (.pointer none) := block_cell hb 2
    have c3 : w.cell? ⟨g, 3, none⟩ = some (.pointer none) := block_cell hb 3
    clear hb
    go_enter Tryd.func69, Tryd.ntmps69
    go_wp2_with fail
    go_ret
    exact ⟨rfl, rfl⟩
  | el s =>
    rintro w p ⟨g, rfl, hb⟩ hn
    have c2 : w.cell? ⟨g, 2, none⟩ = some (.pointer none) := block_cell hb 2
    have c3 : w.cell? ⟨g, 3, none⟩ = some (.pointer none) := block_cell hb 3
    clear hb
    go_enter Tryd.func69, Tryd.ntmps69
    go_wp2_with fail
    go_ret
    exact ⟨rfl, rfl⟩
  | p a b iha ihb =>
    rintro w p ⟨pa, pb, ⟨g, rfl, hb⟩, ha, hb'⟩ hn
    have c2 : w.cell? ⟨g, 2, none⟩ = some (.pointer pa) := block_cell hb 2
    have c3 : w.cell? ⟨g, 3, none⟩ = some (.pointer pb) := block_cell hb 3
    simp only [V.nodes] at hn ⊢
    have h1 := iha w pa ha (by omega)
    have h2 := ihb w pb hb' (by omega)
    obtain ⟨ga, rfl⟩ := ha.some_
    obtain ⟨gb, rfl⟩ := hb'.some_
    clear hb ha hb' iha ihb
    generalize a.nodes = x at *
    generalize b.nodes = y at *
    go_enter Tryd.func69, Tryd.ntmps69
    go_wp2_with (go_at_call 69; first | ((with_reducible refine h1.mono ?_); rintro e w' ⟨rfl, rfl⟩) | ((with_reducible refine h2.mono ?_); rintro e w' ⟨rfl, rfl⟩))
    go_ret
    exact ⟨congrArg (fun b => Ending.returned (.int .i64 b)) (by simp), rfl⟩
  | _ a iha =>
    rintro w p ⟨pa, ⟨g, rfl, hb⟩, ha⟩ hn
    have c2 : w.cell? ⟨g, 2, none⟩ = some (.pointer pa) := block_cell hb 2
    have c3 : w.cell? ⟨g, 3, none⟩ = some (.pointer none) := block_cell hb 3
    simp only [V.nodes] at hn ⊢
    have h1 := iha w pa ha (by omega)
    obtain ⟨ga, rfl⟩ := ha.some_
    clear hb ha iha
    generalize a.nodes = x at *
    go_enter Tryd.func69, Tryd.ntmps69
    go_wp2_with (go_at_call 69; refine h1.mono ?_; rintro e w' ⟨rfl, rfl⟩)
    go_ret
    exact ⟨congrArg (fun b => Ending.returned (.int .i64 b)) (by simp), rfl⟩


theorem St_ne {s l : List UInt8} (h : s ≠ l) : (s == l) = false := by rw [beq_eq_false_iff_ne]; exact h

set_option maxHeartbeats 1000000 in
set_option maxRecDepth 100000 in
theorem valOf_atom (s : List UInt8) (ps : List Tr) (p : Option Addr) (w : World) (h : EAt w (fun _ => True) (.mk s ps) p) (hs : s = [117] ∨ (s ≠ [117] ∧ elemB s = true)) :
    Calls Tryd.prog 96 #[.pointer p] w (VPost w (valOf (.mk s ps))) := by
  obtain ⟨g, A, c, rfl, _, hb, hc, hr⟩ := h
  have c0 : w.cell? ⟨g, 0, none⟩ = some (.string (St s)) := block_cell hb 0
  clear hr hb hc
  rcases hs with rfl | ⟨hs, he⟩
  · have hv : valOf (.mk [117] ps) = some .u := valOf_u ps
    rw [hv]
    clear hv
    go_enter Tryd.func96, Tryd.ntmps96
    go_wp2_with fail
    go_ret
    exact .some_ (up1 w _) (VN_new w _ _ _ _)
  · have hv : valOf (.mk s ps) = some (.el s) := valOf_el hs he ps
    rw [hv]
    have hcall := isElement_any (St s)
    have hcall2 : ∀ w, Calls Tryd.prog 111 #[.string (St s)] w fun e w' => e = .returned (.bool true) ∧ Below w.heap.size w w' := fun w => (hcall w).mono fun e w' ⟨h1, h2⟩ => ⟨by rw [h1]; exact congrArg (fun b => Ending.returned (.bool b)) he, h2⟩
    have h1 := St_ne hs
    clear hv hcall hs he
    go_enter Tryd.func96, Tryd.ntmps96
    go_wp2_with (go_at_call 111; refine (hcall2 _).mono ?_; rintro e w1 ⟨rfl, hb1⟩; have c1 := (hb1.cell (p := ⟨g, 0, none⟩) (World.block_lt_of_cell? w _ c0)).trans c0)
    go_ret
    exact .some_ (up_alloc hb1 _) (VN_new w1 _ _ _ _)

/-- The parts of a list that are met: their pointers. -/
theorem EAt.parts {w : World} {ok : Nat → Prop} {s : List UInt8} {ps : List Tr} {p : Option Addr} (h : EAt w ok (.mk s ps) p) :
    ∃ g A c, p = some ⟨g, 0, none⟩ ∧ w.cell? ⟨g, 0, none⟩ = some (.string (St s)) ∧ w.cell? ⟨g, 1, none⟩ = some (.slice A ps.length c) ∧ ERow w ok ps A := by
  obtain ⟨g, A, c, rfl, _, hb, hc, hr⟩ := h
  exact ⟨g, A, c, rfl, block_cell hb 0, block_cell hb 1, hr⟩
theorem ERow.uncons {w : World} {ok : Nat → Prop} {t : Tr} {ts : List Tr} {A : Option Addr} (h : ERow w ok (t :: ts) A) :
    ∃ b o q, A = some ⟨b, o, none⟩ ∧ w.cell? ⟨b, o, none⟩ = some (.pointer q) ∧ EAt w ok t q ∧ ERow w ok ts (some ⟨b, o + 1, none⟩) := by
  obtain ⟨b, o, q, cur, rfl, _, hb, hc, ht, hr⟩ := h
  exact ⟨b, o, q, rfl, (block_cell hb o).trans hc, ht, hr⟩
theorem ERow.next {w : World} {ok : Nat → Prop} {t : Tr} {ts : List Tr} {b o : Nat} (h : ERow w ok (t :: ts) (some ⟨b, o, none⟩)) :
    ∃ q, w.cell? ⟨b, o, none⟩ = some (.pointer q) ∧ EAt w ok t q ∧ ERow w ok ts (some ⟨b, o + 1, none⟩) := by
  obtain ⟨b', o', q, h1, h2, h3, h4⟩ := h.uncons
  injection h1 with h1
  injection h1 with h1 h1'
  subst h1 h1'
  exact ⟨q, h2, h3, h4⟩

theorem isCall_is (s : List UInt8) (ps : List Tr) (p : Option Addr) (word : ByteArray) (n : Int) (w : World) {ok : Nat → Prop} (h : EAt w ok (.mk s ps) p) (hn : 0 < n) (hn2 : n ≤ 3) (x : Bool) (hx : callB ps word.data.toList n.toNat = x) :
    Calls Tryd.prog 102 #[.pointer p, .string word, .int .i64 n] w fun e w' => e = .returned (.bool x) ∧ w = w' := by
  subst hx
  have := isCall_any s ps p word n.toNat w h (by omega) (by omega)
  rw [show ((n.toNat : Nat) : Int) = n from by omega] at this
  exact this

set_option maxHeartbeats 2000000 in
set_option maxRecDepth 100000 in
theorem valOf_pair (s : List UInt8) (hs : s ≠ [117]) (he : elemB s = false) (h : List UInt8) (q : List Tr) (a : Tr) (p : Option Addr) (w : World) (hp : EAt w (fun _ => True) (.mk s [.mk h q, a]) p)
    (ih : ∀ (w : World) (p : Option Addr), EAt w (fun _ => True) a p → Calls Tryd.prog 96 #[.pointer p] w (VPost w (valOf a))) :
    Calls Tryd.prog 96 #[.pointer p] w (VPost w (valOf (.mk s [.mk h q, a]))) := by
  rw [valOf_two hs he]
  have hel : ∀ w, Calls Tryd.prog 111 #[.string (St s)] w fun e w' => e = .returned (.bool false) ∧ Below w.heap.size w w' := fun w => (isElement_any (St s) w).mono fun e w' ⟨h1, h2⟩ => ⟨by rw [h1]; exact congrArg (fun b => Ending.returned (.bool b)) he, h2⟩
  have h1 := St_ne hs
  obtain ⟨g, A, c, rfl, c0, c1, hr⟩ := hp.parts
  obtain ⟨b, o, qh, rfl, d0, hh, hr⟩ := hr.uncons
  obtain ⟨qa, d1, ha, _⟩ := hr.next
  obtain ⟨gh, Ah, ch, rfl, e0, _, _⟩ := hh.parts
  obtain ⟨ga, rfl⟩ := ha.some_
  have HC : Hid (∀ w1, Below w.heap.size w w1 → w1.cell? ⟨g, 0, none⟩ = some (.string (St s)) ∧ w1.cell? ⟨g, 1, none⟩ = some (.slice (some ⟨b, o, none⟩) 2 c) ∧ w1.cell? ⟨b, o, none⟩ = some (.pointer (some ⟨gh, 0, none⟩)) ∧ w1.cell? ⟨b, o + 1, none⟩ = some (.pointer (some ⟨ga, 0, none⟩)) ∧ w1.cell? ⟨gh, 0, none⟩ = some (.string (St h)) ∧
      Hid (EAt w1 (fun _ => True) (.mk s [.mk h q, a]) (some ⟨g, 0, none⟩)) ∧ Hid (EAt w1 (fun _ => True) a (some ⟨ga, 0, none⟩))) := fun w1 hb => ⟨cell_up hb c0, cell_up hb c1, cell_up hb d0, cell_up hb d1, cell_up hb e0, hp.up hb, ha.up hb⟩
  clear hp ha hr hh he hs c1 d0 d1 e0
  have IH := Lib.hid ih
  clear ih
  by_cases hcase : h = [108] ∨ h = [114] ∨ h = [102]
  · cases hv : valOf a with
    | none =>
      have hno : valTwo h none = none := by rcases hcase with rfl | rfl | rfl <;> rfl
      rw [hno]
      have ih2 : ∀ (w : World) (p : Option Addr), EAt w (fun _ => True) a p → Calls Tryd.prog 96 #[.pointer p] w (fun e w' => Below w.heap.size w w' ∧ e = .returned (.pointer none)) := fun w p hp => by
        have := IH.out w p hp
        rw [hv] at this
        exact this
      have IH2 := Lib.hid ih2
      clear ih2 hv hno IH
      rcases hcase with rfl | rfl | rfl
      all_goals
        go_enter Tryd.func96, Tryd.ntmps96
        go_wp2_with (first
          | (go_at_call 111; refine (hel _).mono ?_; rintro e w1 ⟨rfl, hb1⟩; obtain ⟨c0, c1, d0, d1, e0, HP, HA⟩ := HC.out w1 hb1; have HB1 := Lib.hid hb1; clear hb1)
          | (go_at_call 102; first | ((with_reducible refine (isCall_is s _ _ ⟨#[108]⟩ 2 _ HP.out (by decide) (by decide) _ rfl).mono ?_); rintro e w' ⟨rfl, rfl⟩) | ((with_reducible refine (isCall_is s _ _ ⟨#[114]⟩ 2 _ HP.out (by decide) (by decide) _ rfl).mono ?_); rintro e w' ⟨rfl, rfl⟩) | ((with_reducible refine (isCall_is s _ _ ⟨#[102]⟩ 2 _ HP.out (by decide) (by decide) _ rfl).mono ?_); rintro e w' ⟨rfl, rfl⟩) | ((with_reducible refine (isCall_is s _ _ ⟨#[112]⟩ 3 _ HP.out (by decide) (by decide) _ rfl).mono ?_); rintro e w' ⟨rfl, rfl⟩))
          | (go_at_call 96; refine (IH2.out _ _ HA.out).mono ?_; rintro e w2 ⟨hb2, rfl⟩))
        go_ret
        exact .none_ (below_then HB1.out HB1.out.size hb2)
    | some v =>
      have ih2 : ∀ (w : World) (p : Option Addr), EAt w (fun _ => True) a p → Calls Tryd.prog 96 #[.pointer p] w (fun e w' => Below w.heap.size w w' ∧ ∃ gv, e = .returned (.pointer (some ⟨gv, 0, none⟩)) ∧ VAt w' v (some ⟨gv, 0, none⟩)) := fun w p hp => by
        have := IH.out w p hp
        rw [hv] at this
        refine this.mono fun e w' ⟨h1, p, h2, h3⟩ => ?_
        obtain ⟨gv, rfl⟩ := h3.some_
        exact ⟨h1, gv, h2, h3⟩
      have IH2 := Lib.hid ih2
      clear ih2 hv IH
      rcases hcase with rfl | rfl | rfl
      all_goals
        go_enter Tryd.func96, Tryd.ntmps96
        go_wp2_with (first
          | (go_at_call 111; refine (hel _).mono ?_; rintro e w1 ⟨rfl, hb1⟩; obtain ⟨c0, c1, d0, d1, e0, HP, HA⟩ := HC.out w1 hb1; have HB1 := Lib.hid hb1; clear hb1)
          | (go_at_call 102; first | ((with_reducible refine (isCall_is s _ _ ⟨#[108]⟩ 2 _ HP.out (by decide) (by decide) _ rfl).mono ?_); rintro e w' ⟨rfl, rfl⟩) | ((with_reducible refine (isCall_is s _ _ ⟨#[114]⟩ 2 _ HP.out (by decide) (by decide) _ rfl).mono ?_); rintro e w' ⟨rfl, rfl⟩) | ((with_reducible refine (isCall_is s _ _ ⟨#[102]⟩ 2 _ HP.out (by decide) (by decide) _ rfl).mono ?_); rintro e w' ⟨rfl, rfl⟩) | ((with_reducible refine (isCall_is s _ _ ⟨#[112]⟩ 3 _ HP.out (by decide) (by decide) _ rfl).mono ?_); rintro e w' ⟨rfl, rfl⟩))
          | (go_at_call 96; refine (IH2.out _ _ HA.out).mono ?_; rintro e w2 ⟨hb2, gv, rfl, hv⟩; obtain ⟨c0, c1, d0, d1, e0, _, _⟩ := HC.out w2 (below_then HB1.out HB1.out.size hb2); have HB2 := Lib.hid (below_then HB1.out HB1.out.size hb2); have HV := Lib.hid hv; clear hb2 hv))
        go_ret
        exact .some_ (up_alloc HB2.out _) ⟨_, VN_new w2 _ _ _ _, HV.out.up (up1 w2 _)⟩
  · have hno : valTwo h (valOf a) = none := by
      unfold valTwo
      rw [if_neg (fun h' => hcase (.inl h')), if_neg (fun h' => hcase (.inr (.inl h'))), if_neg (fun h' => hcase (.inr (.inr h')))]
    rw [hno]
    have k1 : callB [.mk h q, a] [108] 2 = false := by simp only [callB, headAtom, St_ne (fun h' => hcase (.inl h')), Bool.and_false]
    have k2 : callB [.mk h q, a] [114] 2 = false := by simp only [callB, headAtom, St_ne (fun h' => hcase (.inr (.inl h'))), Bool.and_false]
    have k3 : callB [.mk h q, a] [102] 2 = false := by simp only [callB, headAtom, St_ne (fun h' => hcase (.inr (.inr h'))), Bool.and_false]
    have k4 : callB [.mk h q, a] [112] 3 = false := by simp [callB]
    clear hno hcase
    go_enter Tryd.func96, Tryd.ntmps96
    go_wp2_with (first
      | (go_at_call 111; refine (hel _).mono ?_; rintro e w1 ⟨rfl, hb1⟩; obtain ⟨c0, c1, d0, d1, e0, HP, HA⟩ := HC.out w1 hb1; have HB1 := Lib.hid hb1; clear hb1)
      | (go_at_call 102; first | ((with_reducible refine (isCall_is s _ _ ⟨#[108]⟩ 2 _ HP.out (by decide) (by decide) _ rfl).mono ?_); rintro e w' ⟨rfl, rfl⟩) | ((with_reducible refine (isCall_is s _ _ ⟨#[114]⟩ 2 _ HP.out (by decide) (by decide) _ rfl).mono ?_); rintro e w' ⟨rfl, rfl⟩) | ((with_reducible refine (isCall_is s _ _ ⟨#[102]⟩ 2 _ HP.out (by decide) (by decide) _ rfl).mono ?_); rintro e w' ⟨rfl, rfl⟩) | ((with_reducible refine (isCall_is s _ _ ⟨#[112]⟩ 3 _ HP.out (by decide) (by decide) _ rfl).mono ?_); rintro e w' ⟨rfl, rfl⟩)))
    go_ret
    exact .none_ HB1.out


def VP (w : World) : Option V → Option Addr → Prop
  | none, p => p = none
  | some v, p => VAt w v p
theorem VP.up {w w1 : World} (hb : Below w.heap.size w w1) {o : Option V} {p : Option Addr} (h : VP w o p) : VP w1 o p := by
  cases o with
  | none => exact h
  | some v => exact VAt.up hb h
theorem VPost.vp {w : World} {o : Option V} {e : Ending} {w' : World} (h : VPost w o e w') : Below w.heap.size w w' ∧ ∃ p, e = .returned (.pointer p) ∧ VP w' o p := by
  cases o with
  | none => exact ⟨h.1, none, h.2, rfl⟩
  | some v => exact h

set_option maxHeartbeats 4000000 in
set_option maxRecDepth 100000 in
theorem valOf_triple (s : List UInt8) (hs : s ≠ [117]) (he : elemB s = false) (h : List UInt8) (q : List Tr) (a b : Tr) (p : Option Addr) (w : World) (hp : EAt w (fun _ => True) (.mk s [.mk h q, a, b]) p)
    (iha : ∀ (w : World) (p : Option Addr), EAt w (fun _ => True) a p → Calls Tryd.prog 96 #[.pointer p] w (VPost w (valOf a)))
    (ihb : ∀ (w : World) (p : Option Addr), EAt w (fun _ => True) b p → Calls Tryd.prog 96 #[.pointer p] w (VPost w (valOf b))) :
    Calls Tryd.prog 96 #[.pointer p] w (VPost w (valOf (.mk s [.mk h q, a, b]))) := by
  rw [valOf_three hs he]
  have hel : ∀ w, Calls Tryd.prog 111 #[.string (St s)] w fun e w' => e = .returned (.bool false) ∧ Below w.heap.size w w' := fun w => (isElement_any (St s) w).mono fun e w' ⟨h1, h2⟩ => ⟨by rw [h1]; exact congrArg (fun b => Ending.returned (.bool b)) he, h2⟩
  have h1 := St_ne hs
  obtain ⟨g, A, c, rfl, c0, c1, hr⟩ := hp.parts
  obtain ⟨bl, o, qh, rfl, d0, hh, hr⟩ := hr.uncons
  obtain ⟨qa, d1, ha, hr⟩ := hr.next
  obtain ⟨qb, d2, hb, _⟩ := hr.next
  obtain ⟨gh, Ah, ch, rfl, e0, _, _⟩ := hh.parts
  obtain ⟨ga, rfl⟩ := ha.some_
  obtain ⟨gb, rfl⟩ := hb.some_
  have k1 : callB [.mk h q, a, b] [108] 2 = false := by simp [callB]
  have k2 : callB [.mk h q, a, b] [114] 2 = false := by simp [callB]
  have k3 : callB [.mk h q, a, b] [102] 2 = false := by simp [callB]
  have HC : Hid (∀ w1, Below w.heap.size w w1 → w1.cell? ⟨g, 0, none⟩ = some (.string (St s)) ∧ w1.cell? ⟨g, 1, none⟩ = some (.slice (some ⟨bl, o, none⟩) 3 c) ∧ w1.cell? ⟨bl, o, none⟩ = some (.pointer (some ⟨gh, 0, none⟩)) ∧ w1.cell? ⟨bl, o + 1, none⟩ = some (.pointer (some ⟨ga, 0, none⟩)) ∧ w1.cell? ⟨bl, o + 2, none⟩ = some (.pointer (some ⟨gb, 0, none⟩)) ∧ w1.cell? ⟨gh, 0, none⟩ = some (.string (St h)) ∧
      Hid (EAt w1 (fun _ => True) (.mk s [.mk h q, a, b]) (some ⟨g, 0, none⟩)) ∧ Hid (EAt w1 (fun _ => True) a (some ⟨ga, 0, none⟩)) ∧ Hid (EAt w1 (fun _ => True) b (some ⟨gb, 0, none⟩))) := fun w1 hb' => ⟨cell_up hb' c0, cell_up hb' c1, cell_up hb' d0, cell_up hb' d1, cell_up hb' d2, cell_up hb' e0, hp.up hb', ha.up hb', hb.up hb'⟩
  clear hp ha hb hr hh he hs c1 d0 d1 d2 e0
  have IHA := Lib.hid fun w p hp => (iha w p hp).mono fun _ _ h => h.vp
  have IHB := Lib.hid fun w p hp => (ihb w p hp).mono fun _ _ h => h.vp
  clear iha ihb
  by_cases hcase : h = [112]
  · subst hcase
    have hval : valThree [112] (valOf a) (valOf b) = match valOf a, valOf b with | some x, some y => some (.p x y) | _, _ => none := rfl
    rw [hval]
    clear hval
    generalize valOf a = x at *
    generalize valOf b = y at *
    go_enter Tryd.func96, Tryd.ntmps96
    go_wp2_with (first
      | (go_at_call 111; refine (hel _).mono ?_; rintro e w1 ⟨rfl, hb1⟩; obtain ⟨c0, c1, d0, d1, d2, e0, HP, HA, HB⟩ := HC.out w1 hb1; have HB1 := Lib.hid hb1; clear hb1)
      | (go_at_call 102; first | ((with_reducible refine (isCall_is s _ _ ⟨#[108]⟩ 2 _ HP.out (by decide) (by decide) _ rfl).mono ?_); rintro e w' ⟨rfl, rfl⟩) | ((with_reducible refine (isCall_is s _ _ ⟨#[114]⟩ 2 _ HP.out (by decide) (by decide) _ rfl).mono ?_); rintro e w' ⟨rfl, rfl⟩) | ((with_reducible refine (isCall_is s _ _ ⟨#[102]⟩ 2 _ HP.out (by decide) (by decide) _ rfl).mono ?_); rintro e w' ⟨rfl, rfl⟩) | ((with_reducible refine (isCall_is s _ _ ⟨#[112]⟩ 3 _ HP.out (by decide) (by decide) _ rfl).mono ?_); rintro e w' ⟨rfl, rfl⟩)))
    go_region_held3 (fun w' => w'.cell? ⟨g, 1, none⟩ = some (.slice (some ⟨bl, o, none⟩) 3 c) ∧ w'.cell? ⟨bl, o + 1, none⟩ = some (.pointer (some ⟨ga, 0, none⟩)) ∧ w'.cell? ⟨bl, o + 2, none⟩ = some (.pointer (some ⟨gb, 0, none⟩)))
      (first | exact ⟨c1'', d1'', d2''⟩ | exact ⟨c1', d1', d2'⟩ | go_keep)
      (first
        | (go_at_call 96; (with_reducible refine (IHA.out _ _ (HA.out.up (up_drew (Below.refl _ _)))).mono ?_); rintro e w2 ⟨hb2, pa, rfl, hpa⟩; have HB2 := Lib.hid (up_trans (up_drew HB1.out) hb2); obtain ⟨c0', c1', d0', d1', d2', e0', HP', HA', HB'⟩ := HC.out w2 HB2.out; have HPA := Lib.hid hpa; clear hb2 hpa)
        | (go_at_call 96; (with_reducible refine (IHB.out _ _ HB'.out).mono ?_); rintro e w3 ⟨hb3, pb, rfl, hpb⟩; have HB3 := Lib.hid (up_trans HB2.out hb3); obtain ⟨c0'', c1'', d0'', d1'', d2'', e0'', HP'', HA'', HB''⟩ := HC.out w3 HB3.out; have HPA' := Lib.hid (HPA.out.up hb3); have HPB := Lib.hid hpb; clear hb3 hpb))
    rcases x with _ | x <;> rcases y with _ | y
    · obtain rfl : pa = none := HPA'.out
      obtain rfl : pb = none := HPB.out
      go_wp2
      go_ret
      exact .none_ HB3.out
    · obtain rfl : pa = none := HPA'.out
      obtain ⟨gy, rfl⟩ := VAt.some_ HPB.out
      go_wp2
      go_ret
      exact .none_ HB3.out
    · obtain rfl : pb = none := HPB.out
      obtain ⟨gx, rfl⟩ := VAt.some_ HPA'.out
      go_wp2
      go_ret
      exact .none_ HB3.out
    · obtain ⟨gx, rfl⟩ := VAt.some_ HPA'.out
      obtain ⟨gy, rfl⟩ := VAt.some_ HPB.out
      have hpair := pair_any x y _ _ w3 HPA'.out HPB.out
      go_wp2_with (go_at_call 112; refine hpair.mono ?_; rintro e w4 ⟨hb4, p4, rfl, hp4⟩; obtain ⟨g4, rfl⟩ := hp4.some_; have HB4 := Lib.hid (up_trans HB3.out hb4); have HP4 := Lib.hid hp4; clear hb4 hp4)
      go_ret
      exact .some_ HB4.out HP4.out
  · have hno : valThree h (valOf a) (valOf b) = none := by
      unfold valThree
      rw [if_neg hcase]
    rw [hno]
    have k4 : callB [.mk h q, a, b] [112] 3 = false := by simp only [callB, headAtom, St_ne hcase, Bool.and_false]
    clear hno hcase
    go_enter Tryd.func96, Tryd.ntmps96
    go_wp2_with (first
      | (go_at_call 111; refine (hel _).mono ?_; rintro e w1 ⟨rfl, hb1⟩; obtain ⟨c0, c1, d0, d1, d2, e0, HP, HA, HB⟩ := HC.out w1 hb1; have HB1 := Lib.hid hb1; clear hb1)
      | (go_at_call 102; first | ((with_reducible refine (isCall_is s _ _ ⟨#[108]⟩ 2 _ HP.out (by decide) (by decide) _ rfl).mono ?_); rintro e w' ⟨rfl, rfl⟩) | ((with_reducible refine (isCall_is s _ _ ⟨#[114]⟩ 2 _ HP.out (by decide) (by decide) _ rfl).mono ?_); rintro e w' ⟨rfl, rfl⟩) | ((with_reducible refine (isCall_is s _ _ ⟨#[102]⟩ 2 _ HP.out (by decide) (by decide) _ rfl).mono ?_); rintro e w' ⟨rfl, rfl⟩) | ((with_reducible refine (isCall_is s _ _ ⟨#[112]⟩ 3 _ HP.out (by decide) (by decide) _ rfl).mono ?_); rintro e w' ⟨rfl, rfl⟩)))
    go_ret
    exact .none_ HB1.out

set_option maxHeartbeats 2000000 in
set_option maxRecDepth 100000 in
theorem valOf_else (s : List UInt8) (hs : s ≠ [117]) (he : elemB s = false) (ps : List Tr) (h2 : ps.length ≠ 2) (h3 : ps.length ≠ 3) (p : Option Addr) (w : World) (hp : EAt w (fun _ => True) (.mk s ps) p) :
    Calls Tryd.prog 96 #[.pointer p] w (VPost w (valOf (.mk s ps))) := by
  rw [valOf_no hs he ps h2 h3]
  have hel : ∀ w, Calls Tryd.prog 111 #[.string (St s)] w fun e w' => e = .returned (.bool false) ∧ Below w.heap.size w w' := fun w => (isElement_any (St s) w).mono fun e w' ⟨h1, h2⟩ => ⟨by rw [h1]; exact congrArg (fun b => Ending.returned (.bool b)) he, h2⟩
  have h1 := St_ne hs
  obtain ⟨g, A, c, rfl, c0, _, _⟩ := hp.parts
  have HC : Hid (∀ w1, Below w.heap.size w w1 → w1.cell? ⟨g, 0, none⟩ = some (.string (St s)) ∧ Hid (EAt w1 (fun _ => True) (.mk s ps) (some ⟨g, 0, none⟩))) := fun w1 hb => ⟨cell_up hb c0, hp.up hb⟩
  have k1 : callB ps [108] 2 = false := by simp [callB, h2]
  have k2 : callB ps [114] 2 = false := by simp [callB, h2]
  have k3 : callB ps [102] 2 = false := by simp [callB, h2]
  have k4 : callB ps [112] 3 = false := by simp [callB, h3]
  clear hp he hs h2 h3
  go_enter Tryd.func96, Tryd.ntmps96
  go_wp2_with (first
    | (go_at_call 111; refine (hel _).mono ?_; rintro e w1 ⟨rfl, hb1⟩; obtain ⟨c0, HP⟩ := HC.out w1 hb1; have HB1 := Lib.hid hb1; clear hb1)
    | (go_at_call 102; first | ((with_reducible refine (isCall_is s _ _ ⟨#[108]⟩ 2 _ HP.out (by decide) (by decide) _ rfl).mono ?_); rintro e w' ⟨rfl, rfl⟩) | ((with_reducible refine (isCall_is s _ _ ⟨#[114]⟩ 2 _ HP.out (by decide) (by decide) _ rfl).mono ?_); rintro e w' ⟨rfl, rfl⟩) | ((with_reducible refine (isCall_is s _ _ ⟨#[102]⟩ 2 _ HP.out (by decide) (by decide) _ rfl).mono ?_); rintro e w' ⟨rfl, rfl⟩) | ((with_reducible refine (isCall_is s _ _ ⟨#[112]⟩ 3 _ HP.out (by decide) (by decide) _ rfl).mono ?_); rintro e w' ⟨rfl, rfl⟩)))
  go_ret
  exact .none_ HB1.out

theorem valOf_any : ∀ (t : Tr) (w : World) (p : Option Addr), EAt w (fun _ => True) t p → Calls Tryd.prog 96 #[.pointer p] w (VPost w (valOf t))
  | .mk s ps, w, p, hp => by
    by_cases hs : s = [117]
    · exact valOf_atom s ps p w hp (.inl hs)
    · cases he : elemB s with
      | true => exact valOf_atom s ps p w hp (.inr ⟨hs, he⟩)
      | false =>
        match ps, hp with
        | [], hp => exact valOf_else s hs he [] (by simp) (by simp) p w hp
        | [a], hp => exact valOf_else s hs he [a] (by simp) (by simp) p w hp
        | [.mk h q, a], hp => exact valOf_pair s hs he h q a p w hp (fun w p hp => valOf_any a w p hp)
        | [.mk h q, a, b], hp => exact valOf_triple s hs he h q a b p w hp (fun w p hp => valOf_any a w p hp) (fun w p hp => valOf_any b w p hp)
        | a :: b :: c :: d :: r, hp => exact valOf_else s hs he (a :: b :: c :: d :: r) (by simp) (by simp) p w hp

end Go.Proofs.YtkciljcligohnaaDoor
