/- The program's values: valOf, pair, nodes, elements, readValue. The program's reading of values: readValue, ValueValid, ValueSize. The reference's values: l1Parse, l6In, l1Head, l2Element, l2Shape, l2Size, l2Value. The reference's values: l2Shape, l2Size, l2Value, ValueValid, ValueSize. The reference's values: l2Value, ValueValid, ValueSize. -/
import Derived.Test.YtpokompplapkhaaGreatDoorMA
namespace Go.Proofs.YtpokompplapkhaaGreatDoor
set_option maxHeartbeats 4000000
set_option maxRecDepth 100000
open Go.RowKit
set_option linter.unusedVariables false
set_option linter.unusedSimpArgs false
def atomV (s : List UInt8) (rest : Option V) : Option V := if s = [117] then some .u else if elemB s = true then some (.el s) else rest
def valTwo (h : List UInt8) (x : Option V) : Option V := if h = [108] then x.map .l else if h = [114] then x.map .r else if h = [102] then x.map .f else none
def valThree (h : List UInt8) (x y : Option V) : Option V := if h = [112] then (match x, y with | some x, some y => some (.p x y) | _, _ => none) else none
def valOf : Tr -> Option V
 | .mk s [.mk h _, a] => atomV s (valTwo h (valOf a))
 | .mk s [.mk h _, a, b] => atomV s (valThree h (valOf a) (valOf b))
 | .mk s _ => atomV s none
theorem valOf_u (ps : List Tr) : valOf (.mk [117] ps) = some .u := by
 rcases ps with _ | ⟨⟨h, q⟩, _ | ⟨a, _ | ⟨b, _ | ⟨c, r⟩⟩⟩⟩ <;> simp [valOf, atomV]
theorem valOf_el {s : List UInt8} (hs : s ≠ [117]) (he : elemB s = true) (ps : List Tr) : valOf (.mk s ps) = some (.el s) := by
 rcases ps with _ | ⟨⟨h, q⟩, _ | ⟨a, _ | ⟨b, _ | ⟨c, r⟩⟩⟩⟩ <;> simp [valOf, atomV, hs, he]
theorem valOf_two {s : List UInt8} (hs : s ≠ [117]) (he : elemB s = false) (h : List UInt8) (q : List Tr) (a : Tr) : valOf (.mk s [.mk h q, a]) = valTwo h (valOf a) := by
 simp [valOf, atomV, hs, he]
theorem valOf_three {s : List UInt8} (hs : s ≠ [117]) (he : elemB s = false) (h : List UInt8) (q : List Tr) (a b : Tr) : valOf (.mk s [.mk h q, a, b]) = valThree h (valOf a) (valOf b) := by
 simp [valOf, atomV, hs, he]
theorem valOf_no {s : List UInt8} (hs : s ≠ [117]) (he : elemB s = false) (ps : List Tr) (h2 : ps.length ≠ 2) (h3 : ps.length ≠ 3) : valOf (.mk s ps) = none := by
 rcases ps with _ | ⟨⟨h, q⟩, _ | ⟨a, _ | ⟨b, _ | ⟨c, r⟩⟩⟩⟩ <;> simp [valOf, atomV, hs, he] <;> simp at h2 h3
def V.nodes : V -> Nat
 | .u => 1
 | .el _ => 1
 | .l a => 1 + a.nodes
 | .r a => 1 + a.nodes
 | .f a => 1 + a.nodes
 | .p a b => 1 + a.nodes + b.nodes
def V.elems : V -> List (List UInt8)
 | .u => []
 | .el s => [s]
 | .l a => a.elems
 | .r a => a.elems
 | .f a => a.elems
 | .p a b => a.elems ++ b.elems
def VPost (w : World) (o : Option V) (e : Ending) (w' : World) : Prop :=
 Below w.heap.size w w' /\ match o with
  | some v => ∃ p, e = .returned (.pointer p) /\ VAt w' v p
  | none => e = .returned (.pointer none)
theorem VPost.none_ {w w' : World} (h : Below w.heap.size w w') : VPost w none (.returned (.pointer none)) w' := ⟨h, rfl⟩
theorem VPost.some_ {w w' : World} {v : V} {p : Option Addr} (h : Below w.heap.size w w') (hp : VAt w' v p) : VPost w (some v) (.returned (.pointer p)) w' := ⟨h, p, rfl, hp⟩
theorem VN_new (w : World) (sg : Int) (el : List UInt8) (pa pb : Option Addr) : VN (w.alloc (.cells #[.int .u8 sg, .string (St el), .pointer pa, .pointer pb] 88)) (some ⟨w.heap.size, 0, none⟩) sg el pa pb := ⟨_, rfl, block_new w _⟩
theorem pair_any (a b : V) (pa pb : Option Addr) (w : World) (ha : VAt w a pa) (hb : VAt w b pb) :
 Calls Tryz.prog 116 #[.pointer pa, .pointer pb] w (VPost w (some (.p a b))) := by
 have HA := Lib.hid ha
 have HB := Lib.hid hb
 clear ha hb
 go_enter Tryz.func116, Tryz.ntmps116
 go_wp2
 go_ret
 exact .some_ (up1 w _) ⟨pa, pb, VN_new w _ _ _ _, HA.out.up (up1 w _), HB.out.up (up1 w _)⟩
theorem nodes_any (v : V) : ∀ (w : World) (p : Option Addr), VAt w v p -> v.nodes <= 1000000000 ->
 Calls Tryz.prog 130 #[.pointer p] w fun e w' => e = .returned (.int .i64 v.nodes) /\ w = w' := by
 induction v with
 | u =>
  rintro w p ⟨g, rfl, hb⟩ hn
  have c2 : w.cell? ⟨g, 2, none⟩ = some (.pointer none) := block_cell hb 2
  have c3 : w.cell? ⟨g, 3, none⟩ = some (.pointer none) := block_cell hb 3
  clear hb
  go_enter Tryz.func130, Tryz.ntmps130
  go_wp2_with fail
  go_ret
  exact ⟨rfl, rfl⟩
 | el s =>
  rintro w p ⟨g, rfl, hb⟩ hn
  have c2 : w.cell? ⟨g, 2, none⟩ = some (.pointer none) := block_cell hb 2
  have c3 : w.cell? ⟨g, 3, none⟩ = some (.pointer none) := block_cell hb 3
  clear hb
  go_enter Tryz.func130, Tryz.ntmps130
  go_wp2_with fail
  go_ret
  exact ⟨rfl, rfl⟩
 | p a b iha ihb =>
  rintro w p ⟨pa, pb, ⟨g, rfl, hb⟩, ha, hb'⟩ hn
  have c2 : w.cell? ⟨g, 2, none⟩ = some (.pointer pa) := block_cell hb 2
  have c3 : w.cell? ⟨g, 3, none⟩ = some (.pointer pb) := block_cell hb 3
  simp only [V.nodes] at hn ⊢
  have h1 := iha w pa ha (by omega)
  have h2 := ihb w pb hb' (by omega)
  obtain ⟨ga, rfl⟩ := ha.some_
  obtain ⟨gb, rfl⟩ := hb'.some_
  clear hb ha hb' iha ihb
  generalize a.nodes = x at *
  generalize b.nodes = y at *
  go_enter Tryz.func130, Tryz.ntmps130
  go_wp2_with (go_at_call 130; first | ((with_reducible refine h1.mono ?_); rintro e w' ⟨rfl, rfl⟩) | ((with_reducible refine h2.mono ?_); rintro e w' ⟨rfl, rfl⟩))
  go_ret
  exact ⟨congrArg (fun b => Ending.returned (.int .i64 b)) (by simp), rfl⟩
 | _ a iha =>
  rintro w p ⟨pa, ⟨g, rfl, hb⟩, ha⟩ hn
  have c2 : w.cell? ⟨g, 2, none⟩ = some (.pointer pa) := block_cell hb 2
  have c3 : w.cell? ⟨g, 3, none⟩ = some (.pointer none) := block_cell hb 3
  simp only [V.nodes] at hn ⊢
  have h1 := iha w pa ha (by omega)
  obtain ⟨ga, rfl⟩ := ha.some_
  clear hb ha iha
  generalize a.nodes = x at *
  go_enter Tryz.func130, Tryz.ntmps130
  go_wp2_with (go_at_call 130; refine h1.mono ?_; rintro e w' ⟨rfl, rfl⟩)
  go_ret
  exact ⟨congrArg (fun b => Ending.returned (.int .i64 b)) (by simp), rfl⟩
theorem St_ne {s l : List UInt8} (h : s ≠ l) : (s == l) = false := by rw [beq_eq_false_iff_ne]; exact h
theorem valOf_atom (s : List UInt8) (ps : List Tr) (p : Option Addr) (w : World) (h : EAt w (fun _ => True) (.mk s ps) p) (hs : s = [117] \/ (s ≠ [117] /\ elemB s = true)) :
 Calls Tryz.prog 129 #[.pointer p] w (VPost w (valOf (.mk s ps))) := by
 obtain ⟨g, A, c, rfl, _, hb, hc, hr⟩ := h
 have c0 : w.cell? ⟨g, 0, none⟩ = some (.string (St s)) := block_cell hb 0
 clear hr hb hc
 rcases hs with rfl | ⟨hs, he⟩
 · have hv : valOf (.mk [117] ps) = some .u := valOf_u ps
   rw [hv]
   clear hv
   go_enter Tryz.func129, Tryz.ntmps129
   go_wp2_with fail
   go_ret
   exact .some_ (up1 w _) (VN_new w _ _ _ _)
 · have hv : valOf (.mk s ps) = some (.el s) := valOf_el hs he ps
   rw [hv]
   have hcall := isElement_any (St s)
   have hcall2 : ∀ w, Calls Tryz.prog 165 #[.string (St s)] w fun e w' => e = .returned (.bool true) /\ Below w.heap.size w w' := fun w => (hcall w).mono fun e w' ⟨h1, h2⟩ => ⟨by rw [h1]; exact congrArg (fun b => Ending.returned (.bool b)) he, h2⟩
   have h1 := St_ne hs
   clear hv hcall hs he
   go_enter Tryz.func129, Tryz.ntmps129
   go_wp2_with (go_at_call 165; refine (hcall2 _).mono ?_; rintro e w1 ⟨rfl, hb1⟩; have c1 := (hb1.cell (p := ⟨g, 0, none⟩) (World.block_lt_of_cell? w _ c0)).trans c0)
   go_ret
   exact .some_ (up_alloc hb1 _) (VN_new w1 _ _ _ _)
theorem EAt.parts {w : World} {ok : Nat -> Prop} {s : List UInt8} {ps : List Tr} {p : Option Addr} (h : EAt w ok (.mk s ps) p) :
 ∃ g A c, p = some ⟨g, 0, none⟩ /\ w.cell? ⟨g, 0, none⟩ = some (.string (St s)) /\ w.cell? ⟨g, 1, none⟩ = some (.slice A ps.length c) /\ ERow w ok ps A := by
 obtain ⟨g, A, c, rfl, _, hb, hc, hr⟩ := h
 exact ⟨g, A, c, rfl, block_cell hb 0, block_cell hb 1, hr⟩
theorem ERow.uncons {w : World} {ok : Nat -> Prop} {t : Tr} {ts : List Tr} {A : Option Addr} (h : ERow w ok (t :: ts) A) :
 ∃ b o q, A = some ⟨b, o, none⟩ /\ w.cell? ⟨b, o, none⟩ = some (.pointer q) /\ EAt w ok t q /\ ERow w ok ts (some ⟨b, o + 1, none⟩) := by
 obtain ⟨b, o, q, cur, rfl, _, hb, hc, ht, hr⟩ := h
 exact ⟨b, o, q, rfl, (block_cell hb o).trans hc, ht, hr⟩
theorem ERow.next {w : World} {ok : Nat -> Prop} {t : Tr} {ts : List Tr} {b o : Nat} (h : ERow w ok (t :: ts) (some ⟨b, o, none⟩)) :
 ∃ q, w.cell? ⟨b, o, none⟩ = some (.pointer q) /\ EAt w ok t q /\ ERow w ok ts (some ⟨b, o + 1, none⟩) := by
 obtain ⟨b', o', q, h1, h2, h3, h4⟩ := h.uncons
 injection h1 with h1
 injection h1 with h1 h1'
 subst h1 h1'
 exact ⟨q, h2, h3, h4⟩
theorem isCall_is (s : List UInt8) (ps : List Tr) (p : Option Addr) (word : ByteArray) (n : Int) (w : World) {ok : Nat -> Prop} (h : EAt w ok (.mk s ps) p) (hn : 0 < n) (hn2 : n <= 3) (x : Bool) (hx : callB ps word.data.toList n.toNat = x) :
 Calls Tryz.prog 166 #[.pointer p, .string word, .int .i64 n] w fun e w' => e = .returned (.bool x) /\ w = w' := by
 subst hx
 have := isCall_any s ps p word n.toNat w h (by omega) (by omega)
 rw [show ((n.toNat : Nat) : Int) = n from by omega] at this
 exact this
theorem valOf_pair (s : List UInt8) (hs : s ≠ [117]) (he : elemB s = false) (h : List UInt8) (q : List Tr) (a : Tr) (p : Option Addr) (w : World) (hp : EAt w (fun _ => True) (.mk s [.mk h q, a]) p)
 (ih : ∀ (w : World) (p : Option Addr), EAt w (fun _ => True) a p -> Calls Tryz.prog 129 #[.pointer p] w (VPost w (valOf a))) :
 Calls Tryz.prog 129 #[.pointer p] w (VPost w (valOf (.mk s [.mk h q, a]))) := by
 rw [valOf_two hs he]
 have hel : ∀ w, Calls Tryz.prog 165 #[.string (St s)] w fun e w' => e = .returned (.bool false) /\ Below w.heap.size w w' := fun w => (isElement_any (St s) w).mono fun e w' ⟨h1, h2⟩ => ⟨by rw [h1]; exact congrArg (fun b => Ending.returned (.bool b)) he, h2⟩
 have h1 := St_ne hs
 obtain ⟨g, A, c, rfl, c0, c1, hr⟩ := hp.parts
 obtain ⟨b, o, qh, rfl, d0, hh, hr⟩ := hr.uncons
 obtain ⟨qa, d1, ha, _⟩ := hr.next
 obtain ⟨gh, Ah, ch, rfl, e0, _, _⟩ := hh.parts
 obtain ⟨ga, rfl⟩ := ha.some_
 have HC : Hid (∀ w1, Below w.heap.size w w1 -> w1.cell? ⟨g, 0, none⟩ = some (.string (St s)) /\ w1.cell? ⟨g, 1, none⟩ = some (.slice (some ⟨b, o, none⟩) 2 c) /\ w1.cell? ⟨b, o, none⟩ = some (.pointer (some ⟨gh, 0, none⟩)) /\ w1.cell? ⟨b, o + 1, none⟩ = some (.pointer (some ⟨ga, 0, none⟩)) /\ w1.cell? ⟨gh, 0, none⟩ = some (.string (St h)) /\
  Hid (EAt w1 (fun _ => True) (.mk s [.mk h q, a]) (some ⟨g, 0, none⟩)) /\ Hid (EAt w1 (fun _ => True) a (some ⟨ga, 0, none⟩))) := fun w1 hb => ⟨cell_up hb c0, cell_up hb c1, cell_up hb d0, cell_up hb d1, cell_up hb e0, hp.up hb, ha.up hb⟩
 clear hp ha hr hh he hs c1 d0 d1 e0
 have IH := Lib.hid ih
 clear ih
 by_cases hcase : h = [108] \/ h = [114] \/ h = [102]
 · cases hv : valOf a with
   | none =>
    have hno : valTwo h none = none := by rcases hcase with rfl | rfl | rfl <;> rfl
    rw [hno]
    have ih2 : ∀ (w : World) (p : Option Addr), EAt w (fun _ => True) a p -> Calls Tryz.prog 129 #[.pointer p] w (fun e w' => Below w.heap.size w w' /\ e = .returned (.pointer none)) := fun w p hp => by
     have := IH.out w p hp
     rw [hv] at this
     exact this
    have IH2 := Lib.hid ih2
    clear ih2 hv hno IH
    rcases hcase with rfl | rfl | rfl
    all_goals
     go_enter Tryz.func129, Tryz.ntmps129
     go_wp2_with (first
      | (go_at_call 165; refine (hel _).mono ?_; rintro e w1 ⟨rfl, hb1⟩; obtain ⟨c0, c1, d0, d1, e0, HP, HA⟩ := HC.out w1 hb1; have HB1 := Lib.hid hb1; clear hb1)
      | (go_at_call 166; first | ((with_reducible refine (isCall_is s _ _ ⟨#[108]⟩ 2 _ HP.out (by decide) (by decide) _ rfl).mono ?_); rintro e w' ⟨rfl, rfl⟩) | ((with_reducible refine (isCall_is s _ _ ⟨#[114]⟩ 2 _ HP.out (by decide) (by decide) _ rfl).mono ?_); rintro e w' ⟨rfl, rfl⟩) | ((with_reducible refine (isCall_is s _ _ ⟨#[102]⟩ 2 _ HP.out (by decide) (by decide) _ rfl).mono ?_); rintro e w' ⟨rfl, rfl⟩) | ((with_reducible refine (isCall_is s _ _ ⟨#[112]⟩ 3 _ HP.out (by decide) (by decide) _ rfl).mono ?_); rintro e w' ⟨rfl, rfl⟩))
      | (go_at_call 129; refine (IH2.out _ _ HA.out).mono ?_; rintro e w2 ⟨hb2, rfl⟩))
     go_ret
     exact .none_ (below_then HB1.out HB1.out.size hb2)
   | some v =>
    have ih2 : ∀ (w : World) (p : Option Addr), EAt w (fun _ => True) a p -> Calls Tryz.prog 129 #[.pointer p] w (fun e w' => Below w.heap.size w w' /\ ∃ gv, e = .returned (.pointer (some ⟨gv, 0, none⟩)) /\ VAt w' v (some ⟨gv, 0, none⟩)) := fun w p hp => by
     have := IH.out w p hp
     rw [hv] at this
     refine this.mono fun e w' ⟨h1, p, h2, h3⟩ => ?_
     obtain ⟨gv, rfl⟩ := h3.some_
     exact ⟨h1, gv, h2, h3⟩
    have IH2 := Lib.hid ih2
    clear ih2 hv IH
    rcases hcase with rfl | rfl | rfl
    all_goals
     go_enter Tryz.func129, Tryz.ntmps129
     go_wp2_with (first
      | (go_at_call 165; refine (hel _).mono ?_; rintro e w1 ⟨rfl, hb1⟩; obtain ⟨c0, c1, d0, d1, e0, HP, HA⟩ := HC.out w1 hb1; have HB1 := Lib.hid hb1; clear hb1)
      | (go_at_call 166; first | ((with_reducible refine (isCall_is s _ _ ⟨#[108]⟩ 2 _ HP.out (by decide) (by decide) _ rfl).mono ?_); rintro e w' ⟨rfl, rfl⟩) | ((with_reducible refine (isCall_is s _ _ ⟨#[114]⟩ 2 _ HP.out (by decide) (by decide) _ rfl).mono ?_); rintro e w' ⟨rfl, rfl⟩) | ((with_reducible refine (isCall_is s _ _ ⟨#[102]⟩ 2 _ HP.out (by decide) (by decide) _ rfl).mono ?_); rintro e w' ⟨rfl, rfl⟩) | ((with_reducible refine (isCall_is s _ _ ⟨#[112]⟩ 3 _ HP.out (by decide) (by decide) _ rfl).mono ?_); rintro e w' ⟨rfl, rfl⟩))
      | (go_at_call 129; refine (IH2.out _ _ HA.out).mono ?_; rintro e w2 ⟨hb2, gv, rfl, hv⟩; obtain ⟨c0, c1, d0, d1, e0, _, _⟩ := HC.out w2 (below_then HB1.out HB1.out.size hb2); have HB2 := Lib.hid (below_then HB1.out HB1.out.size hb2); have HV := Lib.hid hv; clear hb2 hv))
     go_ret
     exact .some_ (up_alloc HB2.out _) ⟨_, VN_new w2 _ _ _ _, HV.out.up (up1 w2 _)⟩
 · have hno : valTwo h (valOf a) = none := by
    unfold valTwo
    rw [if_neg (fun h' => hcase (.inl h')), if_neg (fun h' => hcase (.inr (.inl h'))), if_neg (fun h' => hcase (.inr (.inr h')))]
   rw [hno]
   have k1 : callB [.mk h q, a] [108] 2 = false := by simp only [callB, headAtom, St_ne (fun h' => hcase (.inl h')), Bool.and_false]
   have k2 : callB [.mk h q, a] [114] 2 = false := by simp only [callB, headAtom, St_ne (fun h' => hcase (.inr (.inl h'))), Bool.and_false]
   have k3 : callB [.mk h q, a] [102] 2 = false := by simp only [callB, headAtom, St_ne (fun h' => hcase (.inr (.inr h'))), Bool.and_false]
   have k4 : callB [.mk h q, a] [112] 3 = false := by simp [callB]
   clear hno hcase
   go_enter Tryz.func129, Tryz.ntmps129
   go_wp2_with (first
    | (go_at_call 165; refine (hel _).mono ?_; rintro e w1 ⟨rfl, hb1⟩; obtain ⟨c0, c1, d0, d1, e0, HP, HA⟩ := HC.out w1 hb1; have HB1 := Lib.hid hb1; clear hb1)
    | (go_at_call 166; first | ((with_reducible refine (isCall_is s _ _ ⟨#[108]⟩ 2 _ HP.out (by decide) (by decide) _ rfl).mono ?_); rintro e w' ⟨rfl, rfl⟩) | ((with_reducible refine (isCall_is s _ _ ⟨#[114]⟩ 2 _ HP.out (by decide) (by decide) _ rfl).mono ?_); rintro e w' ⟨rfl, rfl⟩) | ((with_reducible refine (isCall_is s _ _ ⟨#[102]⟩ 2 _ HP.out (by decide) (by decide) _ rfl).mono ?_); rintro e w' ⟨rfl, rfl⟩) | ((with_reducible refine (isCall_is s _ _ ⟨#[112]⟩ 3 _ HP.out (by decide) (by decide) _ rfl).mono ?_); rintro e w' ⟨rfl, rfl⟩)))
   go_ret
   exact .none_ HB1.out
def VP (w : World) : Option V -> Option Addr -> Prop
 | none, p => p = none
 | some v, p => VAt w v p
theorem VP.up {w w1 : World} (hb : Below w.heap.size w w1) {o : Option V} {p : Option Addr} (h : VP w o p) : VP w1 o p := by
 cases o with
 | none => exact h
 | some v => exact VAt.up hb h
theorem VPost.vp {w : World} {o : Option V} {e : Ending} {w' : World} (h : VPost w o e w') : Below w.heap.size w w' /\ ∃ p, e = .returned (.pointer p) /\ VP w' o p := by
 cases o with
 | none => exact ⟨h.1, none, h.2, rfl⟩
 | some v => exact h
theorem valOf_triple (s : List UInt8) (hs : s ≠ [117]) (he : elemB s = false) (h : List UInt8) (q : List Tr) (a b : Tr) (p : Option Addr) (w : World) (hp : EAt w (fun _ => True) (.mk s [.mk h q, a, b]) p)
 (iha : ∀ (w : World) (p : Option Addr), EAt w (fun _ => True) a p -> Calls Tryz.prog 129 #[.pointer p] w (VPost w (valOf a)))
 (ihb : ∀ (w : World) (p : Option Addr), EAt w (fun _ => True) b p -> Calls Tryz.prog 129 #[.pointer p] w (VPost w (valOf b))) :
 Calls Tryz.prog 129 #[.pointer p] w (VPost w (valOf (.mk s [.mk h q, a, b]))) := by
 rw [valOf_three hs he]
 have hel : ∀ w, Calls Tryz.prog 165 #[.string (St s)] w fun e w' => e = .returned (.bool false) /\ Below w.heap.size w w' := fun w => (isElement_any (St s) w).mono fun e w' ⟨h1, h2⟩ => ⟨by rw [h1]; exact congrArg (fun b => Ending.returned (.bool b)) he, h2⟩
 have h1 := St_ne hs
 obtain ⟨g, A, c, rfl, c0, c1, hr⟩ := hp.parts
 obtain ⟨bl, o, qh, rfl, d0, hh, hr⟩ := hr.uncons
 obtain ⟨qa, d1, ha, hr⟩ := hr.next
 obtain ⟨qb, d2, hb, _⟩ := hr.next
 obtain ⟨gh, Ah, ch, rfl, e0, _, _⟩ := hh.parts
 obtain ⟨ga, rfl⟩ := ha.some_
 obtain ⟨gb, rfl⟩ := hb.some_
 have k1 : callB [.mk h q, a, b] [108] 2 = false := by simp [callB]
 have k2 : callB [.mk h q, a, b] [114] 2 = false := by simp [callB]
 have k3 : callB [.mk h q, a, b] [102] 2 = false := by simp [callB]
 have HC : Hid (∀ w1, Below w.heap.size w w1 -> w1.cell? ⟨g, 0, none⟩ = some (.string (St s)) /\ w1.cell? ⟨g, 1, none⟩ = some (.slice (some ⟨bl, o, none⟩) 3 c) /\ w1.cell? ⟨bl, o, none⟩ = some (.pointer (some ⟨gh, 0, none⟩)) /\ w1.cell? ⟨bl, o + 1, none⟩ = some (.pointer (some ⟨ga, 0, none⟩)) /\ w1.cell? ⟨bl, o + 2, none⟩ = some (.pointer (some ⟨gb, 0, none⟩)) /\ w1.cell? ⟨gh, 0, none⟩ = some (.string (St h)) /\
  Hid (EAt w1 (fun _ => True) (.mk s [.mk h q, a, b]) (some ⟨g, 0, none⟩)) /\ Hid (EAt w1 (fun _ => True) a (some ⟨ga, 0, none⟩)) /\ Hid (EAt w1 (fun _ => True) b (some ⟨gb, 0, none⟩))) := fun w1 hb' => ⟨cell_up hb' c0, cell_up hb' c1, cell_up hb' d0, cell_up hb' d1, cell_up hb' d2, cell_up hb' e0, hp.up hb', ha.up hb', hb.up hb'⟩
 clear hp ha hb hr hh he hs c1 d0 d1 d2 e0
 have IHA := Lib.hid fun w p hp => (iha w p hp).mono fun _ _ h => h.vp
 have IHB := Lib.hid fun w p hp => (ihb w p hp).mono fun _ _ h => h.vp
 clear iha ihb
 by_cases hcase : h = [112]
 · subst hcase
   have hval : valThree [112] (valOf a) (valOf b) = match valOf a, valOf b with | some x, some y => some (.p x y) | _, _ => none := rfl
   rw [hval]
   clear hval
   generalize valOf a = x at *
   generalize valOf b = y at *
   go_enter Tryz.func129, Tryz.ntmps129
   go_wp2_with (first
    | (go_at_call 165; refine (hel _).mono ?_; rintro e w1 ⟨rfl, hb1⟩; obtain ⟨c0, c1, d0, d1, d2, e0, HP, HA, HB⟩ := HC.out w1 hb1; have HB1 := Lib.hid hb1; clear hb1)
    | (go_at_call 166; first | ((with_reducible refine (isCall_is s _ _ ⟨#[108]⟩ 2 _ HP.out (by decide) (by decide) _ rfl).mono ?_); rintro e w' ⟨rfl, rfl⟩) | ((with_reducible refine (isCall_is s _ _ ⟨#[114]⟩ 2 _ HP.out (by decide) (by decide) _ rfl).mono ?_); rintro e w' ⟨rfl, rfl⟩) | ((with_reducible refine (isCall_is s _ _ ⟨#[102]⟩ 2 _ HP.out (by decide) (by decide) _ rfl).mono ?_); rintro e w' ⟨rfl, rfl⟩) | ((with_reducible refine (isCall_is s _ _ ⟨#[112]⟩ 3 _ HP.out (by decide) (by decide) _ rfl).mono ?_); rintro e w' ⟨rfl, rfl⟩)))
   go_region_held3 (fun w' => w'.cell? ⟨g, 1, none⟩ = some (.slice (some ⟨bl, o, none⟩) 3 c) /\ w'.cell? ⟨bl, o + 1, none⟩ = some (.pointer (some ⟨ga, 0, none⟩)) /\ w'.cell? ⟨bl, o + 2, none⟩ = some (.pointer (some ⟨gb, 0, none⟩)))
    (first | exact ⟨c1'', d1'', d2''⟩ | exact ⟨c1', d1', d2'⟩ | go_keep)
    (first
     | (go_at_call 129; (with_reducible refine (IHA.out _ _ (HA.out.up (up_drew (Below.refl _ _)))).mono ?_); rintro e w2 ⟨hb2, pa, rfl, hpa⟩; have HB2 := Lib.hid (up_trans (up_drew HB1.out) hb2); obtain ⟨c0', c1', d0', d1', d2', e0', HP', HA', HB'⟩ := HC.out w2 HB2.out; have HPA := Lib.hid hpa; clear hb2 hpa)
     | (go_at_call 129; (with_reducible refine (IHB.out _ _ HB'.out).mono ?_); rintro e w3 ⟨hb3, pb, rfl, hpb⟩; have HB3 := Lib.hid (up_trans HB2.out hb3); obtain ⟨c0'', c1'', d0'', d1'', d2'', e0'', HP'', HA'', HB''⟩ := HC.out w3 HB3.out; have HPA' := Lib.hid (HPA.out.up hb3); have HPB := Lib.hid hpb; clear hb3 hpb))
   rcases x with _ | x <;> rcases y with _ | y
   · obtain rfl : pa = none := HPA'.out
     obtain rfl : pb = none := HPB.out
     go_wp2
     go_ret
     exact .none_ HB3.out
   · obtain rfl : pa = none := HPA'.out
     obtain ⟨gy, rfl⟩ := VAt.some_ HPB.out
     go_wp2
     go_ret
     exact .none_ HB3.out
   · obtain rfl : pb = none := HPB.out
     obtain ⟨gx, rfl⟩ := VAt.some_ HPA'.out
     go_wp2
     go_ret
     exact .none_ HB3.out
   · obtain ⟨gx, rfl⟩ := VAt.some_ HPA'.out
     obtain ⟨gy, rfl⟩ := VAt.some_ HPB.out
     have hpair := pair_any x y _ _ w3 HPA'.out HPB.out
     go_wp2_with (go_at_call 116; refine hpair.mono ?_; rintro e w4 ⟨hb4, p4, rfl, hp4⟩; obtain ⟨g4, rfl⟩ := hp4.some_; have HB4 := Lib.hid (up_trans HB3.out hb4); have HP4 := Lib.hid hp4; clear hb4 hp4)
     go_ret
     exact .some_ HB4.out HP4.out
 · have hno : valThree h (valOf a) (valOf b) = none := by
    unfold valThree
    rw [if_neg hcase]
   rw [hno]
   have k4 : callB [.mk h q, a, b] [112] 3 = false := by simp only [callB, headAtom, St_ne hcase, Bool.and_false]
   clear hno hcase
   go_enter Tryz.func129, Tryz.ntmps129
   go_wp2_with (first
    | (go_at_call 165; refine (hel _).mono ?_; rintro e w1 ⟨rfl, hb1⟩; obtain ⟨c0, c1, d0, d1, d2, e0, HP, HA, HB⟩ := HC.out w1 hb1; have HB1 := Lib.hid hb1; clear hb1)
    | (go_at_call 166; first | ((with_reducible refine (isCall_is s _ _ ⟨#[108]⟩ 2 _ HP.out (by decide) (by decide) _ rfl).mono ?_); rintro e w' ⟨rfl, rfl⟩) | ((with_reducible refine (isCall_is s _ _ ⟨#[114]⟩ 2 _ HP.out (by decide) (by decide) _ rfl).mono ?_); rintro e w' ⟨rfl, rfl⟩) | ((with_reducible refine (isCall_is s _ _ ⟨#[102]⟩ 2 _ HP.out (by decide) (by decide) _ rfl).mono ?_); rintro e w' ⟨rfl, rfl⟩) | ((with_reducible refine (isCall_is s _ _ ⟨#[112]⟩ 3 _ HP.out (by decide) (by decide) _ rfl).mono ?_); rintro e w' ⟨rfl, rfl⟩)))
   go_ret
   exact .none_ HB1.out
theorem valOf_else (s : List UInt8) (hs : s ≠ [117]) (he : elemB s = false) (ps : List Tr) (h2 : ps.length ≠ 2) (h3 : ps.length ≠ 3) (p : Option Addr) (w : World) (hp : EAt w (fun _ => True) (.mk s ps) p) :
 Calls Tryz.prog 129 #[.pointer p] w (VPost w (valOf (.mk s ps))) := by
 rw [valOf_no hs he ps h2 h3]
 have hel : ∀ w, Calls Tryz.prog 165 #[.string (St s)] w fun e w' => e = .returned (.bool false) /\ Below w.heap.size w w' := fun w => (isElement_any (St s) w).mono fun e w' ⟨h1, h2⟩ => ⟨by rw [h1]; exact congrArg (fun b => Ending.returned (.bool b)) he, h2⟩
 have h1 := St_ne hs
 obtain ⟨g, A, c, rfl, c0, _, _⟩ := hp.parts
 have HC : Hid (∀ w1, Below w.heap.size w w1 -> w1.cell? ⟨g, 0, none⟩ = some (.string (St s)) /\ Hid (EAt w1 (fun _ => True) (.mk s ps) (some ⟨g, 0, none⟩))) := fun w1 hb => ⟨cell_up hb c0, hp.up hb⟩
 have k1 : callB ps [108] 2 = false := by simp [callB, h2]
 have k2 : callB ps [114] 2 = false := by simp [callB, h2]
 have k3 : callB ps [102] 2 = false := by simp [callB, h2]
 have k4 : callB ps [112] 3 = false := by simp [callB, h3]
 clear hp he hs h2 h3
 go_enter Tryz.func129, Tryz.ntmps129
 go_wp2_with (first
  | (go_at_call 165; refine (hel _).mono ?_; rintro e w1 ⟨rfl, hb1⟩; obtain ⟨c0, HP⟩ := HC.out w1 hb1; have HB1 := Lib.hid hb1; clear hb1)
  | (go_at_call 166; first | ((with_reducible refine (isCall_is s _ _ ⟨#[108]⟩ 2 _ HP.out (by decide) (by decide) _ rfl).mono ?_); rintro e w' ⟨rfl, rfl⟩) | ((with_reducible refine (isCall_is s _ _ ⟨#[114]⟩ 2 _ HP.out (by decide) (by decide) _ rfl).mono ?_); rintro e w' ⟨rfl, rfl⟩) | ((with_reducible refine (isCall_is s _ _ ⟨#[102]⟩ 2 _ HP.out (by decide) (by decide) _ rfl).mono ?_); rintro e w' ⟨rfl, rfl⟩) | ((with_reducible refine (isCall_is s _ _ ⟨#[112]⟩ 3 _ HP.out (by decide) (by decide) _ rfl).mono ?_); rintro e w' ⟨rfl, rfl⟩)))
 go_ret
 exact .none_ HB1.out
theorem valOf_any : ∀ (t : Tr) (w : World) (p : Option Addr), EAt w (fun _ => True) t p -> Calls Tryz.prog 129 #[.pointer p] w (VPost w (valOf t))
 | .mk s ps, w, p, hp => by
  by_cases hs : s = [117]
  · exact valOf_atom s ps p w hp (.inl hs)
  · cases he : elemB s with
    | true => exact valOf_atom s ps p w hp (.inr ⟨hs, he⟩)
    | false =>
     match ps, hp with
     | [], hp => exact valOf_else s hs he [] (by simp) (by simp) p w hp
     | [a], hp => exact valOf_else s hs he [a] (by simp) (by simp) p w hp
     | [.mk h q, a], hp => exact valOf_pair s hs he h q a p w hp (fun w p hp => valOf_any a w p hp)
     | [.mk h q, a, b], hp => exact valOf_triple s hs he h q a b p w hp (fun w p hp => valOf_any a w p hp) (fun w p hp => valOf_any b w p hp)
     | a :: b :: c :: d :: r, hp => exact valOf_else s hs he (a :: b :: c :: d :: r) (by simp) (by simp) p w hp
end Go.Proofs.YtpokompplapkhaaGreatDoor
namespace Go.Proofs.YtpokompplapkhaaGreatDoor
set_option maxHeartbeats 4000000
set_option maxRecDepth 100000
open Go.RowKit
set_option linter.unusedVariables false
set_option linter.unusedSimpArgs false
mutual
def Tr.size : Tr -> Nat
 | .mk _ ps => 1 + Tr.sizes ps
def Tr.sizes : List Tr -> Nat
 | [] => 0
 | t :: ts => t.size + Tr.sizes ts
end
theorem sizes_append (a b : List Tr) : Tr.sizes (a ++ b) = Tr.sizes a + Tr.sizes b := by
 induction a with
 | nil => simp [Tr.sizes]
 | cons t ts ih => simp only [List.cons_append, Tr.sizes, ih]; omega
theorem rdLoop_size {f : List UInt8 -> Option (Tr × List UInt8)} (hf : ∀ l t r, f l = some (t, r) -> t.size + r.length <= l.length) : ∀ (n : Nat) (acc : List Tr) (l : List UInt8) (t : Tr) (r : List UInt8), rdLoop f n acc l = some (t, r) -> t.size + r.length <= Tr.sizes acc + l.length
 | 0, _, _, _, _, h => by simp [rdLoop] at h
 | n + 1, acc, l, t, r, h => by
  unfold rdLoop at h
  split at h
  · rename_i t' b r' hfl
    have h1 := hf _ _ _ hfl
    simp only [List.length_cons] at h1
    split at h
    · simp only [Option.some.injEq, Prod.mk.injEq] at h
      obtain ⟨rfl, rfl⟩ := h
      simp only [Tr.size, sizes_append, Tr.sizes]
      omega
    · split at h
      · have h2 := rdLoop_size hf n _ _ _ _ h
        simp only [sizes_append, Tr.sizes] at h2
        omega
      · simp at h
  · simp at h
theorem rd_size : ∀ (d : Nat) (l : List UInt8) (t : Tr) (r : List UInt8), rd d l = some (t, r) -> t.size + r.length <= l.length
 | 0, l, t, r, h => by
  have hlen := rd_len _ _ _ _ h
  unfold rd at h
  split at h
  · simp only [Option.some.injEq, Prod.mk.injEq] at h
    obtain ⟨rfl, rfl⟩ := h
    simp only [Tr.size, Tr.sizes]
    omega
  · simp at h
 | d + 1, l, t, r, h => by
  have hlen := rd_len _ _ _ _ h
  unfold rd at h
  split at h
  · simp only [Option.some.injEq, Prod.mk.injEq] at h
    obtain ⟨rfl, rfl⟩ := h
    simp only [Tr.size, Tr.sizes]
    omega
  · cases l with
    | nil => simp at h
    | cons b r' =>
     simp only at h
     split at h
     · have := rdLoop_size (rd_size d) _ _ _ _ _ h
       simp only [Tr.sizes, List.length_cons] at *
       omega
     · simp at h
theorem rdText_size {l : List UInt8} {t : Tr} (h : rdText l = some t) : t.size <= 8000 := by
 unfold rdText at h
 split at h
 · simp at h
 · split at h
   · rename_i h1
     simp only [Option.some.injEq] at h
     subst h
     have := rd_size _ _ _ _ h1
     simp at this
     omega
   · simp at h
theorem valThree_l (h : List UInt8) (y : Option V) : valThree h none y = none := by unfold valThree; split <;> rfl
theorem valThree_r (h : List UInt8) (x : Option V) : valThree h x none = none := by unfold valThree; split <;> cases x <;> rfl
theorem valOf_nodes : ∀ (t : Tr) (v : V), valOf t = some v -> v.nodes <= t.size
 | .mk s [.mk h q, a], v, hv => by
  simp only [valOf, atomV] at hv
  simp only [Tr.size, Tr.sizes]
  split at hv
  · simp only [Option.some.injEq] at hv; subst hv; simp only [V.nodes]; omega
  · split at hv
    · simp only [Option.some.injEq] at hv; subst hv; simp only [V.nodes]; omega
    · unfold valTwo at hv
      have ih := valOf_nodes a
      cases ha : valOf a with
      | none => rw [ha] at hv; (repeat' split at hv) <;> simp at hv
      | some x =>
       have := ih x ha
       rw [ha] at hv
       (repeat' split at hv) <;> simp at hv <;> subst hv <;> simp only [V.nodes] <;> omega
 | .mk s [.mk h q, a, b], v, hv => by
  simp only [valOf, atomV] at hv
  simp only [Tr.size, Tr.sizes]
  split at hv
  · simp only [Option.some.injEq] at hv; subst hv; simp only [V.nodes]; omega
  · split at hv
    · simp only [Option.some.injEq] at hv; subst hv; simp only [V.nodes]; omega
    · have iha := valOf_nodes a
      have ihb := valOf_nodes b
      cases ha : valOf a with
      | none => rw [ha, valThree_l] at hv; simp at hv
      | some x =>
       cases hb : valOf b with
       | none => rw [hb, valThree_r] at hv; simp at hv
       | some y =>
        have := iha x ha
        have := ihb y hb
        rw [ha, hb] at hv
        unfold valThree at hv
        split at hv
        · simp at hv; subst hv; simp only [V.nodes]; omega
        · simp at hv
 | .mk s [], v, hv => by
  simp only [valOf, atomV] at hv
  (repeat' split at hv) <;> simp at hv <;> subst hv <;> simp only [V.nodes, Tr.size] <;> omega
 | .mk s [_], v, hv => by
  simp only [valOf, atomV] at hv
  (repeat' split at hv) <;> simp at hv <;> subst hv <;> simp only [V.nodes, Tr.size] <;> omega
 | .mk s (_ :: _ :: _ :: _ :: _), v, hv => by
  simp only [valOf, atomV] at hv
  (repeat' split at hv) <;> simp at hv <;> subst hv <;> simp only [V.nodes, Tr.size] <;> omega
def rdVal (l : List UInt8) : Option V := match rdText l with
 | none => none
 | some t => match valOf t with
  | none => none
  | some v => if 200 < v.nodes then none else some v
theorem rdVal_nodes {l : List UInt8} {v : V} (h : rdVal l = some v) : v.nodes <= 200 := by
 unfold rdVal at h
 (repeat' split at h) <;> simp at h
 subst h
 omega
theorem readValue_any (s : ByteArray) (w : World) (hs : s.size <= 9223372036854775807) : Calls Tryz.prog 67 #[.string s] w (VPost w (rdVal s.data.toList)) := by
 have ht := readText_any s w hs
 clear hs
 unfold rdVal
 cases hr : rdText s.data.toList with
 | none =>
  rw [hr] at ht
  replace ht : Calls Tryz.prog 128 #[.string s] w (fun e w' => Below w.heap.size w w' /\ e = .returned (.pointer none)) := ht
  go_enter Tryz.func67, Tryz.ntmps67
  go_wp2_with (go_at_call 128; refine ht.mono ?_; rintro e w1 ⟨hb1, rfl⟩)
  go_ret
  exact .none_ hb1
 | some t =>
  have hsz := rdText_size hr
  have hn := valOf_nodes t
  rw [hr] at ht
  replace ht : Calls Tryz.prog 128 #[.string s] w (fun e w' => Below w.heap.size w w' /\ ∃ p, e = .returned (.pointer p) /\ EAt w' (fun _ => True) t p) := ht
  have hv := valOf_any t
  clear hr
  simp only
  cases hval : valOf t with
  | none =>
   rw [hval] at hv
   have HV : Hid (∀ (w : World) (p : Option Addr), EAt w (fun _ => True) t p -> Calls Tryz.prog 129 #[.pointer p] w (fun e w' => Below w.heap.size w w' /\ e = .returned (.pointer none))) := hv
   clear hn hsz hv hval
   go_enter Tryz.func67, Tryz.ntmps67
   go_wp2_with (first
    | (go_at_call 128; refine ht.mono ?_; rintro e w1 ⟨hb1, p, rfl, hp⟩; obtain ⟨g, rfl⟩ := hp.some_; have HP := Lib.hid hp; have HB1 := Lib.hid hb1; clear hp hb1)
    | (go_at_call 129; refine (HV.out _ _ HP.out).mono ?_; rintro e w2 ⟨hb2, rfl⟩))
   go_ret
   exact .none_ (up_trans HB1.out hb2)
  | some v =>
   have hvn := hn v hval
   rw [hval] at hv
   have HV : Hid (∀ (w : World) (p : Option Addr), EAt w (fun _ => True) t p -> Calls Tryz.prog 129 #[.pointer p] w (fun e w' => Below w.heap.size w w' /\ ∃ p, e = .returned (.pointer p) /\ VAt w' v p)) := hv
   have HN := Lib.hid fun w p h => nodes_any v w p h (by omega)
   clear hn hv hval
   simp only
   by_cases h200 : 200 < v.nodes
   · rw [if_pos h200]
     generalize v.nodes = n at *
     go_enter Tryz.func67, Tryz.ntmps67
     go_wp2_with (first
      | (go_at_call 128; refine ht.mono ?_; rintro e w1 ⟨hb1, p, rfl, hp⟩; obtain ⟨g, rfl⟩ := hp.some_; have HP := Lib.hid hp; have HB1 := Lib.hid hb1; clear hp hb1)
      | (go_at_call 129; refine (HV.out _ _ HP.out).mono ?_; rintro e w2 ⟨hb2, p2, rfl, hp2⟩; obtain ⟨g2, rfl⟩ := hp2.some_; have HP2 := Lib.hid hp2; have HB2 := Lib.hid (up_trans HB1.out hb2); clear hp2 hb2)
      | (go_at_call 130; refine (HN.out _ _ HP2.out).mono ?_; rintro e w' ⟨rfl, rfl⟩))
     go_ret
     exact .none_ HB2.out
   · rw [if_neg h200]
     generalize v.nodes = n at *
     go_enter Tryz.func67, Tryz.ntmps67
     go_wp2_with (first
      | (go_at_call 128; refine ht.mono ?_; rintro e w1 ⟨hb1, p, rfl, hp⟩; obtain ⟨g, rfl⟩ := hp.some_; have HP := Lib.hid hp; have HB1 := Lib.hid hb1; clear hp hb1)
      | (go_at_call 129; refine (HV.out _ _ HP.out).mono ?_; rintro e w2 ⟨hb2, p2, rfl, hp2⟩; obtain ⟨g2, rfl⟩ := hp2.some_; have HP2 := Lib.hid hp2; have HB2 := Lib.hid (up_trans HB1.out hb2); clear hp2 hb2)
      | (go_at_call 130; refine (HN.out _ _ HP2.out).mono ?_; rintro e w' ⟨rfl, rfl⟩))
     go_ret
     exact .some_ HB2.out HP2.out
end Go.Proofs.YtpokompplapkhaaGreatDoor
namespace Go.Proofs.YtpokompplapkhaaGreatDoor
set_option maxHeartbeats 4000000
set_option maxRecDepth 100000
open Go.RowKit
set_option linter.unusedVariables false
set_option linter.unusedSimpArgs false
theorem l6In_any (a b c : Int) (w : World) : Calls Tryz.prog 80 #[.int .i64 a, .int .i64 b, .int .i64 c] w fun e w' => e = .returned (.bool (decide (b <= a) && decide (a <= c))) /\ w = w' := by
 go_enter Tryz.func80, Tryz.ntmps80
 go_wp2
 all_goals go_ret
 all_goals exact ⟨congrArg (fun b => Ending.returned (.bool b)) (by first | rfl | (simp; done) | (simp; omega)), rfl⟩
def TPost (w : World) (o : Option Tr) (e : Ending) (w' : World) : Prop :=
 Below w.heap.size w w' /\ match o with
  | some t => ∃ v, e = .returned (.tuple #[v, .bool true]) /\ TAt w' (fun k => w.heap.size <= k) t v
  | none => ∃ x A n c, e = .returned (.tuple #[.agg #[.string x, .slice A n c], .bool false])
theorem TAt.form {w : World} {ok : Nat -> Prop} {t : Tr} {v : Value} (h : TAt w ok t v) : ∃ x A n c, v = .agg #[.string x, .slice A n c] := by
 cases t
 obtain ⟨A, c, rfl, _⟩ := h
 exact ⟨_, _, _, _, rfl⟩
theorem l1Parse_any (s : ByteArray) (w : World) (hs : s.size <= 9223372036854775807) : Calls Tryz.prog 121 #[.string s] w (TPost w (rdText s.data.toList)) := by
 by_cases hb : s.size <= 8000
 · have ho : rdText s.data.toList = match rd 300 s.data.toList with | some (t, []) => some t | _ => none := by
    unfold rdText
    rw [if_neg (by rw [size_list]; omega)]
    rfl
   have hcall := fun w => l1Read_any 300 s 0 0 w (Nat.le_refl _) hb (by omega) (by omega) (Nat.zero_le _)
   rw [List.drop_zero] at hcall
   clear hs
   cases hrd : rd 300 s.data.toList with
   | none =>
    rw [hrd] at ho hcall
    replace ho : rdText s.data.toList = none := ho
    rw [ho]
    have h1 : ((-1 : Int) == (s.size : Int)) = false := by rw [beq_eq_false_iff_ne]; omega
    replace hcall : ∀ w, Calls Tryz.prog 163 #[.string s, .int .i64 0, .int .i64 0] w (fun e w1 => Below w.heap.size w w1 /\ ∃ x A n c, e = .returned (.tuple #[.agg #[.string x, .slice A n c], .int .i64 (-1)])) := hcall
    have HC := Lib.hid hcall
    clear ho hrd hcall
    go_enter Tryz.func121, Tryz.ntmps121
    go_wp2_with (go_at_call 163; refine (HC.out _).mono ?_; rintro e w1 ⟨hb1, x, A, n, c, rfl⟩; have g0 : w1.heap[w.heap.size]? = some (.cells #[.string (St []), .slice none 0 0] 59 (0, 0)) := block_up hb1 (block_new w _); have c0 : w1.cell? ⟨w.heap.size, 0, none⟩ = some (.string (St [])) := block_cell g0 0; have c1 : w1.cell? ⟨w.heap.size, 1, none⟩ = some (.slice none 0 0) := block_cell g0 1; have f0 := block_free g0 0; have f1 := block_free g0 1; have l0 := lt_of_block g0; have HB1 := Lib.hid (up_trans (up1 w _) hb1); clear hb1 g0)
    refine bodyPost_ret (v := .tuple #[.agg #[.string x, .slice A n c], .bool false]) (by simp [results, Tryz.results121, go_sem, c0, c1, l0]) rfl ?_
    exact ⟨by repeat (first | exact HB1.out | refine up_alloc ?_ _ | refine set0 ?_ (Nat.le_refl _)), _, _, _, _, rfl⟩
   | some tr =>
    obtain ⟨t, q⟩ := tr
    rw [hrd] at ho hcall
    have hlen := rd_len _ _ _ _ hrd
    rw [size_list] at hlen
    replace hcall : ∀ w, Calls Tryz.prog 163 #[.string s, .int .i64 0, .int .i64 0] w (fun e w1 => Below w.heap.size w w1 /\ ∃ x A n c, e = .returned (.tuple #[.agg #[.string x, .slice A n c], .int .i64 ((s.size : Int) - (q.length : Int))]) /\ TAt w1 (fun k => w.heap.size <= k) t (.agg #[.string x, .slice A n c])) := fun w => (hcall w).mono fun e w1 h => by
     obtain ⟨hb, v, he, hv⟩ := h
     obtain ⟨x, A, n, c, rfl⟩ := hv.form
     exact ⟨hb, x, A, n, c, he, hv⟩
    have HC := Lib.hid hcall
    clear hrd hcall
    cases q with
    | nil =>
     replace ho : rdText s.data.toList = some t := ho
     rw [ho]
     have h1 : (((s.size : Int) - (([] : List UInt8).length : Int)) == (s.size : Int)) = true := by simp
     clear ho hlen
     go_enter Tryz.func121, Tryz.ntmps121
     go_wp2_with (go_at_call 163; refine (HC.out _).mono ?_; rintro e w1 ⟨hb1, x, A, n, c, rfl, hv⟩; have HV := Lib.hid hv; have g0 : w1.heap[w.heap.size]? = some (.cells #[.string (St []), .slice none 0 0] 59 (0, 0)) := block_up hb1 (block_new w _); have c0 : w1.cell? ⟨w.heap.size, 0, none⟩ = some (.string (St [])) := block_cell g0 0; have c1 : w1.cell? ⟨w.heap.size, 1, none⟩ = some (.slice none 0 0) := block_cell g0 1; have f0 := block_free g0 0; have f1 := block_free g0 1; have l0 := lt_of_block g0; have HB1 := Lib.hid (up_trans (up1 w _) hb1); clear hb1 g0 hv)
     refine bodyPost_ret (v := .tuple #[.agg #[.string x, .slice A n c], .bool true]) (by simp [results, Tryz.results121, go_sem, c0, c1, l0]) rfl ?_
     refine ⟨by repeat (first | exact HB1.out | refine up_alloc ?_ _ | refine set0 ?_ (Nat.le_refl _)), _, rfl, ?_⟩
     exact HV.out.move fun k hk hok => ⟨Nat.le_of_succ_le (by simpa using hok), by
      have hok' : w.heap.size + 1 <= k := by simpa using hok
      rw [Below.heap_alloc _ _ _ (by simp [World.setCell]; omega), Below.heap_setCell _ ⟨w.heap.size, 1, none⟩ _ k (by show k ≠ w.heap.size; omega), Below.heap_setCell _ ⟨w.heap.size, 0, none⟩ _ k (by show k ≠ w.heap.size; omega)]⟩
    | cons b q =>
     replace ho : rdText s.data.toList = none := ho
     rw [ho]
     have h1 : (((s.size : Int) - ((b :: q).length : Int)) == (s.size : Int)) = false := by rw [beq_eq_false_iff_ne, List.length_cons]; omega
     generalize ((s.size : Int) - ((b :: q).length : Int)) = z at *
     clear ho hlen
     go_enter Tryz.func121, Tryz.ntmps121
     go_wp2_with (go_at_call 163; refine (HC.out _).mono ?_; rintro e w1 ⟨hb1, x, A, n, c, rfl, hv⟩; have g0 : w1.heap[w.heap.size]? = some (.cells #[.string (St []), .slice none 0 0] 59 (0, 0)) := block_up hb1 (block_new w _); have c0 : w1.cell? ⟨w.heap.size, 0, none⟩ = some (.string (St [])) := block_cell g0 0; have c1 : w1.cell? ⟨w.heap.size, 1, none⟩ = some (.slice none 0 0) := block_cell g0 1; have f0 := block_free g0 0; have f1 := block_free g0 1; have l0 := lt_of_block g0; have HB1 := Lib.hid (up_trans (up1 w _) hb1); clear hb1 g0 hv)
     refine bodyPost_ret (v := .tuple #[.agg #[.string x, .slice A n c], .bool false]) (by simp [results, Tryz.results121, go_sem, c0, c1, l0]) rfl ?_
     exact ⟨by repeat (first | exact HB1.out | refine up_alloc ?_ _ | refine set0 ?_ (Nat.le_refl _)), _, _, _, _, rfl⟩
 · have ho : rdText s.data.toList = none := by unfold rdText; rw [if_pos (by rw [size_list]; omega)]
   rw [ho]
   clear ho hs
   go_enter Tryz.func121, Tryz.ntmps121
   go_wp2_with fail
   refine bodyPost_ret (v := .tuple #[.agg #[.string ⟨#[]⟩, .slice none 0 0], .bool false]) (by simp [results, Tryz.results121, go_sem]) rfl ?_
   exact ⟨up1 w _, _, _, _, _, rfl⟩
theorem TAt.weak {w : World} {ok ok' : Nat -> Prop} (hb : ∀ k, ok k -> ok' k) {t : Tr} {v : Value} (h : TAt w ok t v) : TAt w ok' t v := h.move fun k _ ho => ⟨hb k ho, rfl⟩
theorem drew_heap (w : World) : w.drew.heap = w.heap := rfl
theorem TAt.parts {w : World} {ok : Nat -> Prop} {s : List UInt8} {ps : List Tr} {v : Value} (h : TAt w ok (.mk s ps) v) : ∃ A c, v = .agg #[.string (St s), .slice A ps.length c] /\ TRow w ok ps A := by
 obtain ⟨A, c, rfl, _, hr⟩ := h
 exact ⟨A, c, rfl, hr⟩
theorem TRow.uncons {w : World} {ok : Nat -> Prop} {s : List UInt8} {ps ts : List Tr} {A : Option Addr} (h : TRow w ok (.mk s ps :: ts) A) :
 ∃ b o A' c, A = some ⟨b, o, none⟩ /\ w.cell? ⟨b, o, none⟩ = some (.string (St s)) /\ w.cell? ⟨b, o + 1, none⟩ = some (.slice A' ps.length c) /\ ps.length <= c /\ TRow w ok ps A' /\ TRow w ok ts (some ⟨b, o + 2, none⟩) := by
 cases h with
 | cons b o s ps ts A' c cur h0 h1 h2 h3 hc hp ht => exact ⟨b, o, A', c, rfl, (block_cell h1 o).trans h2, (block_cell h1 (o + 1)).trans h3, hc, hp, ht⟩
theorem TRow.next {w : World} {ok : Nat -> Prop} {s : List UInt8} {ps ts : List Tr} {b o : Nat} (h : TRow w ok (.mk s ps :: ts) (some ⟨b, o, none⟩)) :
 ∃ A' c, w.cell? ⟨b, o, none⟩ = some (.string (St s)) /\ w.cell? ⟨b, o + 1, none⟩ = some (.slice A' ps.length c) /\ ps.length <= c /\ TRow w ok ps A' /\ TRow w ok ts (some ⟨b, o + 2, none⟩) := by
 cases h with
 | cons b o s ps ts A' c cur h0 h1 h2 h3 hc hp ht => exact ⟨A', c, (block_cell h1 o).trans h2, (block_cell h1 (o + 1)).trans h3, hc, hp, ht⟩
def headOf : Tr -> List UInt8
 | .mk s ps => if s = [] then headAtom ps else []
theorem l1Head_any (t : Tr) (v : Value) (w : World) {ok : Nat -> Prop} (h : TAt w ok t v) : Calls Tryz.prog 125 #[v] w fun e w' => e = .returned (.string (St (headOf t))) /\ Below w.heap.size w w' := by
 obtain ⟨s, ps⟩ := t
 obtain ⟨A, c, rfl, hr⟩ := h.parts
 clear h
 by_cases hs : s = []
 · subst hs
   cases ps with
   | nil =>
    clear hr
    go_enter Tryz.func125, Tryz.ntmps125
    go_wp2_with fail
    go_ret
    exact ⟨rfl, up1 w _⟩
   | cons t ts =>
    obtain ⟨s1, p1⟩ := t
    obtain ⟨b, o, A', c', rfl, c0, _, _, _, _⟩ := hr.uncons
    have l0 := World.block_lt_of_cell? w _ c0
    replace l0 : b < w.heap.size := l0
    have hl : (0 : Int) < ((Tr.mk s1 p1 :: ts).length : Int) := by rw [List.length_cons]; omega
    have hl2 : (((Tr.mk s1 p1 :: ts).length : Int) == 0) = false := by rw [beq_eq_false_iff_ne, List.length_cons]; omega
    have he : headOf (.mk [] (Tr.mk s1 p1 :: ts)) = s1 := rfl
    rw [he]
    generalize (Tr.mk s1 p1 :: ts).length = L at *
    clear hr he
    go_enter Tryz.func125, Tryz.ntmps125
    go_wp2_with fail
    go_ret
    exact ⟨rfl, up1 w _⟩
 · have he : headOf (.mk s ps) = [] := by simp [headOf, hs]
   rw [he]
   have h1 := St_ne hs
   have h2 : (s != []) = true := by rw [bne_iff_ne]; exact hs
   clear hr he
   go_enter Tryz.func125, Tryz.ntmps125
   go_wp2_with fail
   go_ret
   exact ⟨rfl, up1 w _⟩
def numB (l : List UInt8) : Int := l.foldl (fun n b => 10 * n + ((b.toNat : Int) - 48)) 0
def elemNum (l : List UInt8) : Int := if elemB l = true then numB l.tail else -1
theorem digit_bounds {b : UInt8} (h : digitB b = true) : (48 : Int) <= b.toNat /\ (b.toNat : Int) <= 57 := by
 have := (digitB_iff b).1 h
 omega
theorem numB_snoc (l : List UInt8) (b : UInt8) : numB (l ++ [b]) = 10 * numB l + ((b.toNat : Int) - 48) := by simp [numB]
theorem elem_bad {l : List UInt8} (h : elemB l = false) : elemNum l = -1 := by simp [elemNum, h]
theorem l2Element_bad1 (s : ByteArray) (w : World) (h : s.size < 2 \/ 3 < s.size) : Calls Tryz.prog 64 #[.string s] w fun e w' => e = .returned (.int .i64 (-1)) /\ w = w' := by
 have h1 : (decide ((2 : Int) <= (s.size : Int)) && decide ((s.size : Int) <= 3)) = false := by
  rw [Bool.and_eq_false_iff, decide_eq_false_iff_not, decide_eq_false_iff_not]; omega
 have hc := l6In_any (s.size : Int) 2 3
 rw [h1] at hc
 clear h h1
 go_enter Tryz.func64, Tryz.ntmps64
 go_wp2_with (go_at_call 80; refine (hc _).mono ?_; rintro e w' ⟨rfl, rfl⟩)
 go_ret
 exact ⟨rfl, rfl⟩
theorem l2Element_len (s : ByteArray) (w : World) (e0 : UInt8) (r : List UInt8) (hl : s.data.toList = e0 :: r) (hr : 1 <= r.length) (hr2 : r.length <= 2) :
 Calls Tryz.prog 64 #[.string s] w fun e w' => e = .returned (.int .i64 (elemNum (e0 :: r))) /\ w = w' := by
 obtain ⟨_, h2, h3, h4, _⟩ := cons_bytes hl
 replace h4 := h4 h2
 have h7 : 2 <= s.size := by omega
 have h8 : s.size <= 3 := by omega
 have h1 : (decide ((2 : Int) <= (s.size : Int)) && decide ((s.size : Int) <= 3)) = true := by
  rw [Bool.and_eq_true, decide_eq_true_eq, decide_eq_true_eq]; omega
 have hc := l6In_any (s.size : Int) 2 3
 rw [h1] at hc
 clear h1
 have hget : ∀ k (hk : k < r.length) (h : k + 1 < s.size), s[k + 1] = r[k] := fun k hk h => by
  have : s.data.toList[k + 1]'(by rw [hl]; simp; omega) = r[k] := by simp [hl]
  exact this
 by_cases he0 : e0 = 101
 · subst he0
   by_cases h48 : r.length = 2 /\ r[0] = 48
   · have hbad : elemNum (101 :: r) = -1 := by
      apply elem_bad
      rcases r with _ | ⟨a, _ | ⟨b, _ | ⟨c, r⟩⟩⟩
      · simp at hr
      · simp at h48
      · have : a = 48 := h48.2
        subst this
        simp [elemB]
      · simp at hr2
     rw [hbad]
     have k1 : ((s.size : Int) == 3) = true := by simp; omega
     have k3 : 1 < s.size := by omega
     have k2 : s[1] = 48 := by rw [hget 0 (by omega) k3]; exact h48.2
     clear hget h48 hbad hl h3
     go_enter Tryz.func64, Tryz.ntmps64
     go_wp2_with (go_at_call 80; refine (hc _).mono ?_; rintro e w' ⟨rfl, rfl⟩)
     go_ret
     exact ⟨rfl, rfl⟩
   · have hgood : elemB (101 :: r) = r.all digitB := by
      rcases r with _ | ⟨a, _ | ⟨b, _ | ⟨c, r⟩⟩⟩
      · simp at hr
      · simp [elemB]
      · have : ¬ a = 48 := fun h => h48 ⟨rfl, h⟩
        simp [elemB, this]
      · simp at hr2
     have HG := Lib.hid hgood
     have HL := Lib.hid hl
     have H3 := Lib.hid h3
     have k3 : 1 < s.size := by omega
     have k12 : (((s.size : Int) == 3) = true /\ ((s[1].toNat : Int) == 48) = false) \/ ((s.size : Int) == 3) = false := by
      by_cases hlen : r.length = 2
      · left
        refine ⟨by simp; omega, ?_⟩
        rw [hget 0 (by omega) k3]
        exact byte_ne (fun h => h48 ⟨hlen, h⟩)
      · right
        rw [beq_eq_false_iff_ne]; omega
     have HGET := Lib.hid hget
     clear hgood hl h3 h48 hget
     rcases k12 with ⟨k1, k2⟩ | k1
     all_goals
      go_enter Tryz.func64, Tryz.ntmps64
      go_wp2_with (go_at_call 80; refine (hc _).mono ?_; rintro e w' ⟨rfl, rfl⟩)
      go_loop [3, 4] (fun n i => ∃ k : Nat, k <= r.length /\ i = .int .i64 ((k : Int) + 1) /\ ∃ z : Int, n = .int .i64 z /\ 0 <= z /\ z <= 99 /\ (k = 0 -> z = 0) /\ (k = 1 -> z <= 9) /\ Hid ((r.take k).all digitB = true /\ z = numB (r.take k))) (fun _ i => r.length + 1 - (intOf i).toNat)
      case atStart => exact ⟨0, Nat.zero_le _, rfl, 0, rfl, by omega, by omega, fun _ => rfl, fun _ => by omega, by simp [numB, Hid]⟩
      case round =>
       obtain ⟨k, hk, rfl, z, rfl, hz0, hz9, hk0, hk1, HD⟩ := hrel
       have hkz : z <= 9 \/ k = 2 := by
        have : k = 0 \/ k = 1 \/ k = 2 := by omega
        rcases this with h | h | h
        · left; have := hk0 h; omega
        · left; exact hk1 h
        · right; exact h
       have hk0' : k = 0 -> z = 0 := hk0
       have HK0 := Lib.hid hk0'
       clear hk0 hk1 hk0'
       try clear k2
       have hs3 := H3.out
       by_cases hlt : k < r.length
       · have hlts : k + 1 < s.size := by omega
         have hg := HGET.out k hlt hlts
         have hz99 : z <= 9 := by rcases hkz with h | h; exact h; omega
         clear hkz
         cases hd : digitB r[k] with
         | true =>
          have hdb := digit_bounds hd
          have HT : Hid (r.take (k + 1) = r.take k ++ [r[k]]) := by
           show r.take (k + 1) = r.take k ++ [r[k]]
           rw [List.take_succ_eq_append_getElem hlt]
          have HDD := Lib.hid hd
          generalize hrk : r[k] = b at *
          have HRK := Lib.hid hrk
          clear hd hs3 hrk
          obtain ⟨hdb1, hdb2⟩ := hdb
          go_wp2
          go_round
          case rel => exact ⟨k + 1, by omega, by go_num, _, rfl, by omega, by omega, fun h => absurd h (Nat.succ_ne_zero k), fun h => by have h0 : z = 0 := HK0.out (by omega); omega, by rw [HT.out, List.all_append, HD.out.1]; simp [HDD.out], by rw [HT.out, numB_snoc, <- HD.out.2]⟩
          case measure => simp [intOf]; omega
         | false =>
          have hbad : elemNum (101 :: r) = -1 := elem_bad (by
           rw [HG.out]
           cases ha : r.all digitB with
           | false => rfl
           | true =>
            have := List.all_eq_true.1 ha r[k] (List.getElem_mem hlt)
            rw [hd] at this
            cases this)
          have HBAD := Lib.hid hbad
          have hdb : (r[k].toNat : Int) < 48 \/ (57 : Int) < r[k].toNat := by
           have := mt (digitB_iff r[k]).2 (by rw [hd]; simp)
           omega
          generalize hrk : r[k] = b at *
          have HRK := Lib.hid hrk
          clear hd hs3 hrk hbad
          rcases hdb with hdb | hdb
          · go_wp2
            go_ret
            exact ⟨congrArg (fun z => Ending.returned (.int .i64 z)) HBAD.out.symm, rfl⟩
          · have hdb2 : (48 : Int) <= b.toNat := by omega
            go_wp2
            go_ret
            exact ⟨congrArg (fun z => Ending.returned (.int .i64 z)) HBAD.out.symm, rfl⟩
       · have hkr : k = r.length := by omega
         have hend : elemNum (101 :: r) = z := by
          have h1 := HD.out.1
          have h2 := HD.out.2
          rw [hkr, List.take_length] at h1 h2
          unfold elemNum
          rw [if_pos (by rw [HG.out]; exact h1), h2]
          rfl
         have HEND := Lib.hid hend
         have hge : ¬ ((k : Int) + 1 < (s.size : Int)) := by omega
         clear hkz hend hkr hs3
         go_wp2
         go_ret
         exact ⟨congrArg (fun z => Ending.returned (.int .i64 z)) HEND.out.symm, rfl⟩
 · have hbad : elemNum (e0 :: r) = -1 := by
    apply elem_bad
    rcases r with _ | ⟨a, _ | ⟨b, _ | ⟨c, r⟩⟩⟩
    · rfl
    · simp [elemB, he0]
    · simp [elemB, he0]
    · rfl
   rw [hbad]
   have k1 : ((e0.toNat : Int) != 101) = true := byte_bne he0
   clear hget hbad hl h3 he0
   go_enter Tryz.func64, Tryz.ntmps64
   go_wp2_with (go_at_call 80; refine (hc _).mono ?_; rintro e w' ⟨rfl, rfl⟩)
   go_ret
   exact ⟨rfl, rfl⟩
theorem l2Element_any (s : ByteArray) (w : World) : Calls Tryz.prog 64 #[.string s] w fun e w' => e = .returned (.int .i64 (elemNum s.data.toList)) /\ w = w' := by
 have hsz := size_list s
 match hl : s.data.toList with
 | [] => exact l2Element_bad1 s w (.inl (by rw [<- hsz, hl]; simp))
 | [a] => exact l2Element_bad1 s w (.inl (by rw [<- hsz, hl]; simp))
 | e0 :: a :: b :: c :: r => exact l2Element_bad1 s w (.inr (by rw [<- hsz, hl]; simp))
 | [e0, a] => exact l2Element_len s w e0 [a] hl (by simp) (by simp)
 | [e0, a, b] => exact l2Element_len s w e0 [a, b] hl (by simp) (by simp)
theorem numB_nonneg (l : List UInt8) (h : l.all digitB = true) : 0 <= numB l := by
 suffices ∀ (l : List UInt8) (n : Int), 0 <= n -> l.all digitB = true -> 0 <= l.foldl (fun n b => 10 * n + ((b.toNat : Int) - 48)) n from this l 0 (by omega) h
 intro l
 induction l with
 | nil => intro n hn _; exact hn
 | cons b r ih =>
  intro n hn h
  simp only [List.all_cons, Bool.and_eq_true] at h
  have := digit_bounds h.1
  exact ih _ (by show 0 <= 10 * n + ((b.toNat : Int) - 48); omega) h.2
theorem elemNum_neg (l : List UInt8) : (0 <= elemNum l) ↔ elemB l = true := by
 unfold elemNum
 cases h : elemB l with
 | false => simp
 | true =>
  simp only [if_true, iff_true]
  apply numB_nonneg
  match l, h with
  | [e, a], h => simp [elemB] at h; simp [h]
  | [e, a, b], h => simp [elemB] at h; simp [h]
end Go.Proofs.YtpokompplapkhaaGreatDoor
namespace Go.Proofs.YtpokompplapkhaaGreatDoor
set_option maxHeartbeats 4000000
set_option maxRecDepth 100000
open Go.RowKit
set_option linter.unusedVariables false
set_option linter.unusedSimpArgs false
mutual
def OkT : Tr -> Prop
 | .mk s ps => (s ≠ [] -> ps = []) /\ OkTs ps
def OkTs : List Tr -> Prop
 | [] => True
 | t :: ts => OkT t /\ OkTs ts
end
theorem OkTs_append {a b : List Tr} (ha : OkTs a) (hb : OkTs b) : OkTs (a ++ b) := by
 induction a with
 | nil => exact hb
 | cons t ts ih => exact ⟨ha.1, ih ha.2⟩
theorem rdLoop_ok {f : List UInt8 -> Option (Tr × List UInt8)} (hf : ∀ l t r, f l = some (t, r) -> OkT t) : ∀ (n : Nat) (acc : List Tr) (l : List UInt8) (t : Tr) (r : List UInt8), OkTs acc -> rdLoop f n acc l = some (t, r) -> OkT t
 | 0, _, _, _, _, _, h => by simp [rdLoop] at h
 | n + 1, acc, l, t, r, ha, h => by
  unfold rdLoop at h
  split at h
  · rename_i t' b r' hfl
    have h1 := hf _ _ _ hfl
    split at h
    · simp only [Option.some.injEq, Prod.mk.injEq] at h
      obtain ⟨rfl, rfl⟩ := h
      exact ⟨fun h => absurd rfl h, OkTs_append ha (show OkTs [t'] from ⟨h1, trivial⟩)⟩
    · split at h
      · exact rdLoop_ok hf n _ _ _ _ (OkTs_append ha (show OkTs [t'] from ⟨h1, trivial⟩)) h
      · simp at h
  · simp at h
theorem rd_ok : ∀ (d : Nat) (l : List UInt8) (t : Tr) (r : List UInt8), rd d l = some (t, r) -> OkT t
 | 0, l, t, r, h => by
  unfold rd at h
  split at h
  · simp only [Option.some.injEq, Prod.mk.injEq] at h
    obtain ⟨rfl, rfl⟩ := h
    exact ⟨fun _ => rfl, trivial⟩
  · simp at h
 | d + 1, l, t, r, h => by
  unfold rd at h
  split at h
  · simp only [Option.some.injEq, Prod.mk.injEq] at h
    obtain ⟨rfl, rfl⟩ := h
    exact ⟨fun _ => rfl, trivial⟩
  · cases l with
    | nil => simp at h
    | cons b r' =>
     simp only at h
     split at h
     · exact rdLoop_ok (rd_ok d) _ _ _ _ _ (show OkTs [] from trivial) h
     · simp at h
theorem rdText_ok {l : List UInt8} {t : Tr} (h : rdText l = some t) : OkT t := by
 unfold rdText at h
 split at h
 · simp at h
 · split at h
   · rename_i h1
     simp only [Option.some.injEq] at h
     subst h
     exact rd_ok _ _ _ _ h1
   · simp at h
def V.toTr : V -> Tr
 | .u => .mk [117] []
 | .el s => .mk s []
 | .l a => .mk [] [.mk [108] [], a.toTr]
 | .r a => .mk [] [.mk [114] [], a.toTr]
 | .f a => .mk [] [.mk [102] [], a.toTr]
 | .p a b => .mk [] [.mk [112] [], a.toTr, b.toTr]
theorem elemB_nil : elemB [] = false := rfl
theorem valOf_toTr : ∀ (t : Tr) (v : V), OkT t -> valOf t = some v -> t = v.toTr
 | .mk s ps, v, hok, hv => by
  by_cases hs : s = [117]
  · subst hs
    rw [valOf_u] at hv
    simp only [Option.some.injEq] at hv
    subst hv
    rw [hok.1 (by simp)]
    rfl
  · cases he : elemB s with
    | true =>
     rw [valOf_el hs he] at hv
     simp only [Option.some.injEq] at hv
     subst hv
     rw [hok.1 (by intro h; subst h; simp [elemB_nil] at he)]
     rfl
    | false =>
     match ps, hok, hv with
     | [], _, hv => rw [valOf_no hs he [] (by simp) (by simp)] at hv; cases hv
     | [a], _, hv => rw [valOf_no hs he [a] (by simp) (by simp)] at hv; cases hv
     | a :: b :: c :: d :: r, _, hv => rw [valOf_no hs he (a :: b :: c :: d :: r) (by simp) (by simp)] at hv; cases hv
     | [.mk h q, a], hok, hv =>
      have h0 : s = [] := by
       by_cases h : s = []
       · exact h
       · have := hok.1 h; simp at this
      subst h0
      have ih := valOf_toTr a
      rw [valOf_two hs he] at hv
      cases ha : valOf a with
      | none => rw [ha] at hv; unfold valTwo at hv; (repeat' split at hv) <;> simp at hv
      | some x =>
       have hx := ih x hok.2.2.1 ha
       have hq : h ≠ [] -> q = [] := hok.2.1.1
       rw [ha] at hv
       unfold valTwo at hv
       split at hv
       · rename_i hh; subst hh; simp at hv; subst hv; rw [hx, hq (by simp)]; rfl
       · split at hv
         · rename_i hh; subst hh; simp at hv; subst hv; rw [hx, hq (by simp)]; rfl
         · split at hv
           · rename_i hh; subst hh; simp at hv; subst hv; rw [hx, hq (by simp)]; rfl
           · cases hv
     | [.mk h q, a, b], hok, hv =>
      have h0 : s = [] := by
       by_cases h : s = []
       · exact h
       · have := hok.1 h; simp at this
      subst h0
      have iha := valOf_toTr a
      have ihb := valOf_toTr b
      rw [valOf_three hs he] at hv
      cases ha : valOf a with
      | none => rw [ha, valThree_l] at hv; cases hv
      | some x =>
       cases hb : valOf b with
       | none => rw [hb, valThree_r] at hv; cases hv
       | some y =>
        have hx := iha x hok.2.2.1 ha
        have hy := ihb y hok.2.2.2.1 hb
        have hq : h ≠ [] -> q = [] := hok.2.1.1
        rw [ha, hb] at hv
        unfold valThree at hv
        split at hv
        · rename_i hh; subst hh; simp at hv; subst hv; rw [hx, hy, hq (by simp)]; rfl
        · cases hv
theorem TRow.at2 {w : World} {ok : Nat -> Prop} {a : Tr} {ts : List Tr} {b o : Nat} (h : TRow w ok (a :: ts) (some ⟨b, o, none⟩)) :
 ∃ x A n c, w.cell? ⟨b, o, none⟩ = some (.string x) /\ w.cell? ⟨b, o + 1, none⟩ = some (.slice A n c) /\ TAt w ok a (.agg #[.string x, .slice A n c]) /\ TRow w ok ts (some ⟨b, o + 2, none⟩) := by
 obtain ⟨s, ps⟩ := a
 obtain ⟨A, c, h0, h1, hc, hr, ht⟩ := h.next
 exact ⟨_, A, _, c, h0, h1, ⟨A, c, rfl, hc, hr⟩, ht⟩
theorem l2Shape_atom (s : List UInt8) (hs : s ≠ []) (v : Value) (w : World) {ok : Nat -> Prop} (h : TAt w ok (.mk s []) v) :
 Calls Tryz.prog 122 #[v] w fun e w' => e = .returned (.bool (valOf (.mk s [])).isSome) /\ Below w.heap.size w w' := by
 obtain ⟨A, c, rfl, _⟩ := h.parts
 clear h
 have h2 : s.isEmpty = false := by cases s with | nil => exact absurd rfl hs | cons => rfl
 by_cases h117 : s = [117]
 · subst h117
   rw [valOf_u]
   clear hs h2
   go_enter Tryz.func122, Tryz.ntmps122
   go_wp2_with fail
   go_ret
   exact ⟨rfl, up1 w _⟩
 · have hv : (valOf (.mk s [])).isSome = decide (0 <= elemNum s) := by
    cases he : elemB s with
    | true => rw [valOf_el h117 he]; have := (elemNum_neg s).2 he; simp [this]
    | false => rw [valOf_no h117 he [] (by simp) (by simp)]; have : ¬ 0 <= elemNum s := mt (elemNum_neg s).1 (by simp [he]); simp [this]
   rw [hv]
   have h3 := St_ne h117
   have hc := fun w => l2Element_any (St s) w
   have hc2 : ∀ w, Calls Tryz.prog 64 #[.string (St s)] w fun e w' => e = .returned (.int .i64 (elemNum s)) /\ w = w' := hc
   clear hs hv h117 hc
   generalize elemNum s = z at *
   go_enter Tryz.func122, Tryz.ntmps122
   go_wp2_with (go_at_call 64; refine (hc2 _).mono ?_; rintro e w' ⟨rfl, rfl⟩)
   go_ret
   exact ⟨rfl, up1 w _⟩
theorem l2Shape_no (ps : List Tr) (h2 : ps.length ≠ 2) (h3 : ps.length ≠ 3) (v : Value) (w : World) {ok : Nat -> Prop} (h : TAt w ok (.mk [] ps) v) :
 Calls Tryz.prog 122 #[v] w fun e w' => e = .returned (.bool (valOf (.mk [] ps)).isSome) /\ Below w.heap.size w w' := by
 rw [valOf_no (by simp) elemB_nil ps h2 h3]
 have hh := fun w1 (hb : Below w.heap.size w w1) => l1Head_any _ v w1 (h.up hb)
 obtain ⟨A, c, rfl, _⟩ := h.parts
 have HH := Lib.hid hh
 have k2 : ((ps.length : Int) == 2) = false := by rw [beq_eq_false_iff_ne]; omega
 have k3 : ((ps.length : Int) == 3) = false := by rw [beq_eq_false_iff_ne]; omega
 generalize headOf (.mk [] ps) = hd at *
 generalize ps.length = L at *
 clear h h2 h3 hh
 go_enter Tryz.func122, Tryz.ntmps122
 go_wp2_with (go_at_call 125; refine (HH.out _ (up1 w _)).mono ?_; rintro e w1 ⟨rfl, hb1⟩; have g0 := block_up hb1 (block_new w _); have c0 := block_cell g0 0; have c1 := block_cell g0 1; simp only [List.getElem?_toArray, List.getElem?_cons_zero, List.getElem?_cons_succ] at c0 c1; have HB1 := Lib.hid (up_trans (up1 w _) hb1); clear hb1 g0)
 all_goals (go_ret; exact ⟨rfl, HB1.out⟩)
theorem l2Shape_two (h : List UInt8) (q : List Tr) (a : Tr) (v : Value) (w : World) (hp : TAt w (fun _ => True) (.mk [] [.mk h q, a]) v)
 (ih : ∀ (v : Value) (w : World), TAt w (fun _ => True) a v -> Calls Tryz.prog 122 #[v] w fun e w' => e = .returned (.bool (valOf a).isSome) /\ Below w.heap.size w w') :
 Calls Tryz.prog 122 #[v] w fun e w' => e = .returned (.bool (valOf (.mk [] [.mk h q, a])).isSome) /\ Below w.heap.size w w' := by
 rw [valOf_two (by simp) elemB_nil]
 have hh : ∀ w1, Below w.heap.size w w1 -> Calls Tryz.prog 125 #[v] w1 fun e w' => e = .returned (.string (St h)) /\ Below w1.heap.size w1 w' := fun w1 (hb : Below w.heap.size w w1) => l1Head_any _ v w1 (hp.up hb)
 have HH := Lib.hid hh
 have IH := Lib.hid ih
 obtain ⟨A, c, rfl, hr⟩ := hp.parts
 obtain ⟨b, o, A', c', rfl, _, _, _, _, hr⟩ := hr.uncons
 obtain ⟨x, A2, n2, c2, d2, d3, ha, _⟩ := hr.at2
 have HC : Hid (∀ w1, Below w.heap.size w w1 -> w1.cell? ⟨b, o + 2, none⟩ = some (.string x) /\ w1.cell? ⟨b, o + 3, none⟩ = some (.slice A2 n2 c2) /\ Hid (TAt w1 (fun _ => True) a (.agg #[.string x, .slice A2 n2 c2]))) := fun w1 hb => ⟨cell_up hb d2, cell_up hb d3, ha.up hb⟩
 clear hp hr ha hh ih d2 d3
 have hx : (valTwo h (valOf a)).isSome = (((h == [108]) || (h == [114]) || (h == [102])) && (valOf a).isSome) := by
  unfold valTwo
  by_cases h1 : h = [108]
  · simp [h1]
  · by_cases h2 : h = [114]
    · simp [h2]
    · by_cases h3 : h = [102]
      · simp [h3]
      · simp [h1, h2, h3]
 rw [hx]
 clear hx
 generalize (valOf a).isSome = y at *
 by_cases hcase : h = [108] \/ h = [114] \/ h = [102]
 · have hz : ((h == [108]) || (h == [114]) || (h == [102])) = true := by rcases hcase with rfl | rfl | rfl <;> rfl
   rw [hz]
   clear hz
   rcases hcase with rfl | rfl | rfl
   all_goals
    go_enter Tryz.func122, Tryz.ntmps122
    go_wp2_with (first
     | (go_at_call 125; refine (HH.out _ (up1 w _)).mono ?_; rintro e w1 ⟨rfl, hb1⟩; have g0 := block_up hb1 (block_new w _); have c0 := block_cell g0 0; have c1 := block_cell g0 1; simp only [List.getElem?_toArray, List.getElem?_cons_zero, List.getElem?_cons_succ] at c0 c1; obtain ⟨d2, d3, HA⟩ := HC.out w1 (up_trans (up1 w _) hb1); have HB1 := Lib.hid (up_trans (up1 w _) hb1); clear hb1 g0)
     | (go_at_call 122; refine (IH.out _ _ HA.out).mono ?_; rintro e w2 ⟨rfl, hb2⟩))
    go_ret
    exact ⟨rfl, up_trans HB1.out hb2⟩
 · have k1 := St_ne (fun h' => hcase (.inl h'))
   have k2 := St_ne (fun h' => hcase (.inr (.inl h')))
   have k3 := St_ne (fun h' => hcase (.inr (.inr h')))
   have kz : (((h == [108]) || (h == [114]) || (h == [102])) && y) = false := by rw [k1, k2, k3]; rfl
   rw [kz]
   clear hcase kz
   go_enter Tryz.func122, Tryz.ntmps122
   go_wp2_with (go_at_call 125; refine (HH.out _ (up1 w _)).mono ?_; rintro e w1 ⟨rfl, hb1⟩; have g0 := block_up hb1 (block_new w _); have c0 := block_cell g0 0; have c1 := block_cell g0 1; simp only [List.getElem?_toArray, List.getElem?_cons_zero, List.getElem?_cons_succ] at c0 c1; obtain ⟨d2, d3, HA⟩ := HC.out w1 (up_trans (up1 w _) hb1); have HB1 := Lib.hid (up_trans (up1 w _) hb1); clear hb1 g0)
   all_goals go_ret
   all_goals exact ⟨rfl, HB1.out⟩
theorem l2Shape_three (h : List UInt8) (q : List Tr) (a b : Tr) (v : Value) (w : World) (hp : TAt w (fun _ => True) (.mk [] [.mk h q, a, b]) v)
 (iha : ∀ (v : Value) (w : World), TAt w (fun _ => True) a v -> Calls Tryz.prog 122 #[v] w fun e w' => e = .returned (.bool (valOf a).isSome) /\ Below w.heap.size w w')
 (ihb : ∀ (v : Value) (w : World), TAt w (fun _ => True) b v -> Calls Tryz.prog 122 #[v] w fun e w' => e = .returned (.bool (valOf b).isSome) /\ Below w.heap.size w w') :
 Calls Tryz.prog 122 #[v] w fun e w' => e = .returned (.bool (valOf (.mk [] [.mk h q, a, b])).isSome) /\ Below w.heap.size w w' := by
 rw [valOf_three (by simp) elemB_nil]
 have hh : ∀ w1, Below w.heap.size w w1 -> Calls Tryz.prog 125 #[v] w1 fun e w' => e = .returned (.string (St h)) /\ Below w1.heap.size w1 w' := fun w1 (hb : Below w.heap.size w w1) => l1Head_any _ v w1 (hp.up hb)
 have HH := Lib.hid hh
 have IHA := Lib.hid iha
 have IHB := Lib.hid ihb
 obtain ⟨A, c, rfl, hr⟩ := hp.parts
 obtain ⟨bl, o, A', c', rfl, _, _, _, _, hr⟩ := hr.uncons
 obtain ⟨x, A2, n2, c2, d2, d3, ha, hr⟩ := hr.at2
 obtain ⟨x4, A4, n4, c4, d4, d5, hb, _⟩ := hr.at2
 have HC : Hid (∀ w1, Below w.heap.size w w1 -> w1.cell? ⟨bl, o + 2, none⟩ = some (.string x) /\ w1.cell? ⟨bl, o + 3, none⟩ = some (.slice A2 n2 c2) /\ w1.cell? ⟨bl, o + 4, none⟩ = some (.string x4) /\ w1.cell? ⟨bl, o + 5, none⟩ = some (.slice A4 n4 c4) /\
  Hid (TAt w1 (fun _ => True) a (.agg #[.string x, .slice A2 n2 c2])) /\ Hid (TAt w1 (fun _ => True) b (.agg #[.string x4, .slice A4 n4 c4]))) := fun w1 hb' => ⟨cell_up hb' d2, cell_up hb' d3, cell_up hb' d4, cell_up hb' d5, ha.up hb', hb.up hb'⟩
 clear hp hr ha hb hh iha ihb d2 d3 d4 d5
 have hx : (valThree h (valOf a) (valOf b)).isSome = ((h == [112]) && ((valOf a).isSome && (valOf b).isSome)) := by
  unfold valThree
  by_cases h1 : h = [112]
  · rw [if_pos h1, h1]
    cases valOf a <;> cases valOf b <;> rfl
  · rw [if_neg h1, St_ne h1]; rfl
 rw [hx]
 clear hx
 generalize (valOf a).isSome = y at *
 generalize (valOf b).isSome = z at *
 by_cases hcase : h = [112]
 · subst hcase
   rw [show ((([112] : List UInt8) == [112]) && (y && z)) = (y && z) from rfl]
   cases y with
   | false =>
    go_enter Tryz.func122, Tryz.ntmps122
    go_wp2_with (first
     | (go_at_call 125; refine (HH.out _ (up1 w _)).mono ?_; rintro e w1 ⟨rfl, hb1⟩; have g0 := block_up hb1 (block_new w _); have c0 := block_cell g0 0; have c1 := block_cell g0 1; simp only [List.getElem?_toArray, List.getElem?_cons_zero, List.getElem?_cons_succ] at c0 c1; obtain ⟨d2, d3, d4, d5, HA, HB⟩ := HC.out w1 (up_trans (up1 w _) hb1); have G0 := Lib.hid g0; have HB1 := Lib.hid (up_trans (up1 w _) hb1); clear hb1 g0)
     | (go_at_call 122; refine (IHA.out _ _ HA.out).mono ?_; rintro e w2 ⟨rfl, hb2⟩))
    go_ret
    exact ⟨rfl, up_trans HB1.out hb2⟩
   | true =>
    go_enter Tryz.func122, Tryz.ntmps122
    go_wp2_with (first
     | (go_at_call 125; refine (HH.out _ (up1 w _)).mono ?_; rintro e w1 ⟨rfl, hb1⟩; have g0 := block_up hb1 (block_new w _); have c0 := block_cell g0 0; have c1 := block_cell g0 1; simp only [List.getElem?_toArray, List.getElem?_cons_zero, List.getElem?_cons_succ] at c0 c1; obtain ⟨d2, d3, d4, d5, HA, HB⟩ := HC.out w1 (up_trans (up1 w _) hb1); have G0 := Lib.hid g0; have HB1 := Lib.hid (up_trans (up1 w _) hb1); clear hb1 g0)
     | (go_at_call 122; ((with_reducible refine (IHA.out _ _ HA.out).mono ?_); rintro e w2 ⟨rfl, hb2⟩; have g0 := block_up hb2 G0.out; have c0' := block_cell g0 0; have c1' := block_cell g0 1; simp only [List.getElem?_toArray, List.getElem?_cons_zero, List.getElem?_cons_succ] at c0' c1'; obtain ⟨_, _, d4', d5', _, HB'⟩ := HC.out w2 (up_trans HB1.out hb2); have HB2 := Lib.hid (up_trans HB1.out hb2); clear hb2 g0))
     | (go_at_call 122; ((with_reducible refine (IHB.out _ _ HB'.out).mono ?_); rintro e w3 ⟨rfl, hb3⟩)))
    go_ret
    exact ⟨rfl, up_trans HB2.out hb3⟩
 · have k1 := St_ne hcase
   have kz : ((h == [112]) && (y && z)) = false := by rw [k1]; rfl
   rw [kz]
   clear hcase kz
   go_enter Tryz.func122, Tryz.ntmps122
   go_wp2_with (go_at_call 125; refine (HH.out _ (up1 w _)).mono ?_; rintro e w1 ⟨rfl, hb1⟩; have g0 := block_up hb1 (block_new w _); have c0 := block_cell g0 0; have c1 := block_cell g0 1; simp only [List.getElem?_toArray, List.getElem?_cons_zero, List.getElem?_cons_succ] at c0 c1; obtain ⟨d2, d3, d4, d5, HA, HB⟩ := HC.out w1 (up_trans (up1 w _) hb1); have G0 := Lib.hid g0; have HB1 := Lib.hid (up_trans (up1 w _) hb1); clear hb1 g0)
   all_goals go_ret
   all_goals exact ⟨rfl, HB1.out⟩
theorem l2Shape_any : ∀ (t : Tr) (v : Value) (w : World), OkT t -> TAt w (fun _ => True) t v -> Calls Tryz.prog 122 #[v] w fun e w' => e = .returned (.bool (valOf t).isSome) /\ Below w.heap.size w w'
 | .mk s ps, v, w, hok, hp => by
  by_cases hs : s = []
  · subst hs
    match ps, hok, hp with
    | [], _, hp => exact l2Shape_no [] (by simp) (by simp) v w hp
    | [a], _, hp => exact l2Shape_no [a] (by simp) (by simp) v w hp
    | [.mk h q, a], hok, hp => exact l2Shape_two h q a v w hp (fun v w hp => l2Shape_any a v w hok.2.2.1 hp)
    | [.mk h q, a, b], hok, hp => exact l2Shape_three h q a b v w hp (fun v w hp => l2Shape_any a v w hok.2.2.1 hp) (fun v w hp => l2Shape_any b v w hok.2.2.2.1 hp)
    | a :: b :: c :: d :: r, _, hp => exact l2Shape_no (a :: b :: c :: d :: r) (by simp) (by simp) v w hp
  · have := hok.1 hs
    subst this
    exact l2Shape_atom s hs v w hp
def V.kids : V -> List V
 | .u => []
 | .el _ => []
 | .l a => [a]
 | .r a => [a]
 | .f a => [a]
 | .p a b => [a, b]
theorem l2Size_leaf (s : List UInt8) (v : Value) (w : World) {ok : Nat -> Prop} (hp : TAt w ok (.mk s []) v) :
 Calls Tryz.prog 123 #[v] w fun e w' => e = .returned (.int .i64 1) /\ Below w.heap.size w w' := by
 obtain ⟨A, c, rfl, _⟩ := hp.parts
 clear hp
 go_enter Tryz.func123, Tryz.ntmps123
 go_wp2
 go_loopw [3, 4] (fun n i wr => n = .int .i64 1 /\ i = .int .i64 1 /\ wr = w.alloc (.cells #[.string (St s), .slice A 0 c] 59)) (fun _ _ _ => 0)
 case atStart => exact ⟨rfl, rfl, rfl⟩
 case round =>
  obtain ⟨rfl, rfl, rfl⟩ := hrel
  go_wp2
  go_ret
  exact ⟨rfl, up1 w _⟩
theorem l2Size_two (h : List UInt8) (q : List Tr) (a : Tr) (na : Nat) (hna : na <= 1000000) (v : Value) (w : World) (hp : TAt w (fun _ => True) (.mk [] [.mk h q, a]) v)
 (ih : ∀ (v : Value) (w : World), TAt w (fun _ => True) a v -> Calls Tryz.prog 123 #[v] w fun e w' => e = .returned (.int .i64 na) /\ Below w.heap.size w w') :
 Calls Tryz.prog 123 #[v] w fun e w' => e = .returned (.int .i64 (1 + na : Nat)) /\ Below w.heap.size w w' := by
 have IH := Lib.hid ih
 obtain ⟨A, c, rfl, hr⟩ := hp.parts
 obtain ⟨b, o, A', c', rfl, _, _, _, _, hr⟩ := hr.uncons
 obtain ⟨x, A2, n2, c2, d2, d3, ha, _⟩ := hr.at2
 have HC : Hid (∀ w1, Below w.heap.size w w1 -> w1.cell? ⟨b, o + 2, none⟩ = some (.string x) /\ w1.cell? ⟨b, o + 3, none⟩ = some (.slice A2 n2 c2) /\ Hid (TAt w1 (fun _ => True) a (.agg #[.string x, .slice A2 n2 c2]))) := fun w1 hb => ⟨cell_up hb d2, cell_up hb d3, ha.up hb⟩
 clear hp hr ha ih d2 d3
 have hlen : ([Tr.mk h q, a] : List Tr).length = 2 := rfl
 rw [hlen]
 clear hlen
 go_enter Tryz.func123, Tryz.ntmps123
 go_wp2
 go_loopw [3, 4] (fun n i wr => ((i = .int .i64 1 /\ n = .int .i64 1) \/ (i = .int .i64 2 /\ n = .int .i64 (1 + (na : Int)))) /\ Hid (Below w.heap.size w wr) /\ Hid (wr.heap[w.heap.size]? = some (.cells #[.string (St []), .slice (some ⟨b, o, none⟩) 2 c] 59 (0, 0)))) (fun _ i _ => 2 - (intOf i).toNat)
 case atStart => exact ⟨.inl ⟨rfl, rfl⟩, up1 w _, block_new w _⟩
 case round =>
  obtain ⟨hin, HB, G0⟩ := hrel
  have c0 : wr.cell? ⟨w.heap.size, 0, none⟩ = some (.string (St [])) := block_cell G0.out 0
  have c1 : wr.cell? ⟨w.heap.size, 1, none⟩ = some (.slice (some ⟨b, o, none⟩) 2 c) := block_cell G0.out 1
  obtain ⟨d2, d3, HA⟩ := HC.out wr HB.out
  rcases hin with ⟨rfl, rfl⟩ | ⟨rfl, rfl⟩
  · go_wp2_with (go_at_call 123; refine (IH.out _ _ HA.out).mono ?_; rintro e w2 ⟨rfl, hb2⟩)
    go_roundw
    case rel => exact ⟨.inr ⟨rfl, rfl⟩, up_trans HB.out hb2, block_up hb2 G0.out⟩
    case measure => simp [intOf]
  · go_wp2
    go_ret
    exact ⟨rfl, HB.out⟩
theorem l2Size_three (h : List UInt8) (q : List Tr) (a a2 : Tr) (na nb : Nat) (hna : na <= 1000000) (hnb : nb <= 1000000) (v : Value) (w : World) (hp : TAt w (fun _ => True) (.mk [] [.mk h q, a, a2]) v)
 (ih : ∀ (v : Value) (w : World), TAt w (fun _ => True) a v -> Calls Tryz.prog 123 #[v] w fun e w' => e = .returned (.int .i64 na) /\ Below w.heap.size w w')
 (ih2 : ∀ (v : Value) (w : World), TAt w (fun _ => True) a2 v -> Calls Tryz.prog 123 #[v] w fun e w' => e = .returned (.int .i64 nb) /\ Below w.heap.size w w') :
 Calls Tryz.prog 123 #[v] w fun e w' => e = .returned (.int .i64 (1 + na + nb : Nat)) /\ Below w.heap.size w w' := by
 have IH := Lib.hid ih
 have IH2 := Lib.hid ih2
 obtain ⟨A, c, rfl, hr⟩ := hp.parts
 obtain ⟨b, o, A', c', rfl, _, _, _, _, hr⟩ := hr.uncons
 obtain ⟨x, A2, n2, c2, d2, d3, ha, hr⟩ := hr.at2
 obtain ⟨x4, A4, n4, c4, d4, d5, hb, _⟩ := hr.at2
 have HC : Hid (∀ w1, Below w.heap.size w w1 -> w1.cell? ⟨b, o + 2, none⟩ = some (.string x) /\ w1.cell? ⟨b, o + 3, none⟩ = some (.slice A2 n2 c2) /\ w1.cell? ⟨b, o + 4, none⟩ = some (.string x4) /\ w1.cell? ⟨b, o + 5, none⟩ = some (.slice A4 n4 c4) /\ Hid (TAt w1 (fun _ => True) a (.agg #[.string x, .slice A2 n2 c2])) /\ Hid (TAt w1 (fun _ => True) a2 (.agg #[.string x4, .slice A4 n4 c4]))) := fun w1 hb' => ⟨cell_up hb' d2, cell_up hb' d3, cell_up hb' d4, cell_up hb' d5, ha.up hb', hb.up hb'⟩
 clear hp hr ha hb ih ih2 d2 d3 d4 d5
 have hlen : ([Tr.mk h q, a, a2] : List Tr).length = 3 := rfl
 rw [hlen]
 clear hlen
 go_enter Tryz.func123, Tryz.ntmps123
 go_wp2
 go_loopw [3, 4] (fun n i wr => ((i = .int .i64 1 /\ n = .int .i64 1) \/ (i = .int .i64 2 /\ n = .int .i64 (1 + (na : Int))) \/ (i = .int .i64 3 /\ n = .int .i64 (1 + (na : Int) + (nb : Int)))) /\ Hid (Below w.heap.size w wr) /\ Hid (wr.heap[w.heap.size]? = some (.cells #[.string (St []), .slice (some ⟨b, o, none⟩) 3 c] 59 (0, 0)))) (fun _ i _ => 3 - (intOf i).toNat)
 case atStart => exact ⟨.inl ⟨rfl, rfl⟩, up1 w _, block_new w _⟩
 case round =>
  obtain ⟨hin, HB, G0⟩ := hrel
  have c0 : wr.cell? ⟨w.heap.size, 0, none⟩ = some (.string (St [])) := block_cell G0.out 0
  have c1 : wr.cell? ⟨w.heap.size, 1, none⟩ = some (.slice (some ⟨b, o, none⟩) 3 c) := block_cell G0.out 1
  obtain ⟨d2, d3, d4, d5, HA, HA2⟩ := HC.out wr HB.out
  rcases hin with ⟨rfl, rfl⟩ | ⟨rfl, rfl⟩ | ⟨rfl, rfl⟩
  · go_wp2_with (go_at_call 123; refine (IH.out _ _ HA.out).mono ?_; rintro e w2 ⟨rfl, hb2⟩)
    go_roundw
    case rel => exact ⟨.inr (.inl ⟨rfl, rfl⟩), up_trans HB.out hb2, block_up hb2 G0.out⟩
    case measure => simp [intOf]
  · go_wp2_with (go_at_call 123; refine (IH2.out _ _ HA2.out).mono ?_; rintro e w2 ⟨rfl, hb2⟩)
    go_roundw
    case rel => exact ⟨.inr (.inr ⟨rfl, rfl⟩), up_trans HB.out hb2, block_up hb2 G0.out⟩
    case measure => simp [intOf]
  · go_wp2
    go_ret
    exact ⟨congrArg (fun z => Ending.returned (.int .i64 z)) (by omega), HB.out⟩
theorem l2Size_any : ∀ (x : V) (v : Value) (w : World), x.nodes <= 1000000 -> TAt w (fun _ => True) x.toTr v -> Calls Tryz.prog 123 #[v] w fun e w' => e = .returned (.int .i64 x.nodes) /\ Below w.heap.size w w'
 | .u, v, w, _, hp => l2Size_leaf _ v w hp
 | .el s, v, w, _, hp => l2Size_leaf _ v w hp
 | .l a, v, w, hn, hp => by
  simp only [V.nodes] at hn
  exact l2Size_two _ _ a.toTr a.nodes (by omega) v w hp (fun v w hp => l2Size_any a v w (by omega) hp)
 | .r a, v, w, hn, hp => by
  simp only [V.nodes] at hn
  exact l2Size_two _ _ a.toTr a.nodes (by omega) v w hp (fun v w hp => l2Size_any a v w (by omega) hp)
 | .f a, v, w, hn, hp => by
  simp only [V.nodes] at hn
  exact l2Size_two _ _ a.toTr a.nodes (by omega) v w hp (fun v w hp => l2Size_any a v w (by omega) hp)
 | .p a b, v, w, hn, hp => by
  simp only [V.nodes] at hn
  exact l2Size_three _ _ a.toTr b.toTr a.nodes b.nodes (by omega) (by omega) v w hp (fun v w hp => l2Size_any a v w (by omega) hp) (fun v w hp => l2Size_any b v w (by omega) hp)
end Go.Proofs.YtpokompplapkhaaGreatDoor
namespace Go.Proofs.YtpokompplapkhaaGreatDoor
set_option maxHeartbeats 4000000
set_option maxRecDepth 100000
open Go.RowKit
set_option linter.unusedVariables false
set_option linter.unusedSimpArgs false
def SVPost (w : World) (o : Option V) (e : Ending) (w' : World) : Prop :=
 Below w.heap.size w w' /\ match o with
  | some v => ∃ x A n c, e = .returned (.tuple #[.agg #[.string x, .slice A n c], .bool true]) /\ TAt w' (fun k => w.heap.size <= k) v.toTr (.agg #[.string x, .slice A n c])
  | none => ∃ x A n c, e = .returned (.tuple #[.agg #[.string x, .slice A n c], .bool false])
theorem l2Value_none (s : ByteArray) (w : World) (hs : s.size <= 9223372036854775807) (h : rdText s.data.toList = none) : Calls Tryz.prog 54 #[.string s] w (SVPost w none) := by
 have hc : ∀ w, Calls Tryz.prog 121 #[.string s] w (fun e w' => Below w.heap.size w w' /\ ∃ x A n c, e = .returned (.tuple #[.agg #[.string x, .slice A n c], .bool false])) := fun w => by
  have := l1Parse_any s w hs
  rw [h] at this
  exact this
 have HCALL := Lib.hid hc
 clear hc hs h
 go_enter Tryz.func54, Tryz.ntmps54
 go_wp2_with (go_at_call 121; refine (HCALL.out _).mono ?_; rintro e w1 ⟨hb1, x, A, n, c, rfl⟩; have g0 : w1.heap[w.heap.size]? = some (.cells #[.string (St []), .slice none 0 0] 59 (0, 0)) := block_up hb1 (block_new w _); have c0 : w1.cell? ⟨w.heap.size, 0, none⟩ = some (.string (St [])) := block_cell g0 0; have c1 : w1.cell? ⟨w.heap.size, 1, none⟩ = some (.slice none 0 0) := block_cell g0 1; have f0 := block_free g0 0; have f1 := block_free g0 1; have l0 := lt_of_block g0; have HB1 := Lib.hid (up_trans (up1 w _) hb1); clear hb1 g0)
 go_region
 go_wp2
 refine bodyPost_ret (v := .tuple #[.agg #[.string x, .slice A n c], .bool false]) (by simp [results, Tryz.results54, go_sem, c0, c1, l0]) rfl ?_
 exact ⟨by repeat (first | exact HB1.out | refine up_drew ?_ | refine up_alloc ?_ _ | refine set0 ?_ (Nat.le_refl _)), _, _, _, _, rfl⟩
theorem l2Value_some (s : ByteArray) (w : World) (hs : s.size <= 9223372036854775807) (t : Tr) (h : rdText s.data.toList = some t) (hv : valOf t = none) : Calls Tryz.prog 54 #[.string s] w (SVPost w none) := by
 have hok := rdText_ok h
 have hc : ∀ w, Calls Tryz.prog 121 #[.string s] w (fun e w' => Below w.heap.size w w' /\ ∃ x A n c, e = .returned (.tuple #[.agg #[.string x, .slice A n c], .bool true]) /\ TAt w' (fun _ => True) t (.agg #[.string x, .slice A n c])) := fun w => by
  have := l1Parse_any s w hs
  rw [h] at this
  refine this.mono fun e w' ⟨h1, v, h2, h3⟩ => ?_
  obtain ⟨x, A, n, c, rfl⟩ := h3.form
  exact ⟨h1, x, A, n, c, h2, h3.weak fun _ _ => trivial⟩
 have hsh : ∀ (v : Value) (w : World), TAt w (fun _ => True) t v -> Calls Tryz.prog 122 #[v] w fun e w' => e = .returned (.bool false) /\ Below w.heap.size w w' := fun v w hp => by
  have := l2Shape_any t v w hok hp
  rw [hv] at this
  exact this
 have HCALL := Lib.hid hc
 have HSH := Lib.hid hsh
 clear hc hs h hok hv hsh
 go_enter Tryz.func54, Tryz.ntmps54
 go_wp2_with (go_at_call 121; refine (HCALL.out _).mono ?_; rintro e w1 ⟨hb1, x, A, n, c, rfl, hv⟩; have HV := Lib.hid hv; have g0 : w1.heap[w.heap.size]? = some (.cells #[.string (St []), .slice none 0 0] 59 (0, 0)) := block_up hb1 (block_new w _); have c0 : w1.cell? ⟨w.heap.size, 0, none⟩ = some (.string (St [])) := block_cell g0 0; have c1 : w1.cell? ⟨w.heap.size, 1, none⟩ = some (.slice none 0 0) := block_cell g0 1; have f0 := block_free g0 0; have f1 := block_free g0 1; have l0 := lt_of_block g0; have G0 := Lib.hid g0; have HB1 := Lib.hid (up_trans (up1 w _) hb1); clear hb1 g0 hv)
 go_region_with (first
  | (go_at_call 122; (with_reducible refine (HSH.out _ _ (HV.out.up (up_drew (up1 w1 _)))).mono ?_); rintro e w2 ⟨rfl, hb2⟩; have g1 : w2.heap[w1.heap.size]? = some (.cells #[.string x, .slice A n c] 59 (0, 0)) := block_up hb2 (block_new w1 _); have k0 : w2.cell? ⟨w1.heap.size, 0, none⟩ = some (.string x) := block_cell g1 0; have k1 : w2.cell? ⟨w1.heap.size, 1, none⟩ = some (.slice A n c) := block_cell g1 1; have g0 := block_up hb2 (block_alloc G0.out _); have c0' : w2.cell? ⟨w.heap.size, 0, none⟩ = some (.string (St [])) := block_cell g0 0; have c1' : w2.cell? ⟨w.heap.size, 1, none⟩ = some (.slice none 0 0) := block_cell g0 1; have f0' := block_free g0 0; have f1' := block_free g0 1; have l0' := lt_of_block g0; have HB2 := Lib.hid (up_trans (up_drew (up_alloc HB1.out _)) hb2); clear hb2 g0 g1))
 all_goals go_wp2
 all_goals refine bodyPost_ret (v := .tuple #[.agg #[.string x, .slice A n c], .bool false]) (by simp [results, Tryz.results54, go_sem, c0', c1', l0']) rfl ?_
 all_goals exact ⟨by repeat (first | exact HB2.out | refine up_drew ?_ | refine up_alloc ?_ _ | refine set0 ?_ (Nat.le_refl _)), _, _, _, _, rfl⟩
theorem l2Value_ok (s : ByteArray) (w : World) (hs : s.size <= 9223372036854775807) (t : Tr) (x0 : V) (h : rdText s.data.toList = some t) (hv : valOf t = some x0) :
 Calls Tryz.prog 54 #[.string s] w (fun e w' => Below w.heap.size w w' /\ ∃ x A n c, e = .returned (.tuple #[.agg #[.string x, .slice A n c], .bool (decide (x0.nodes <= 200))]) /\ TAt w' (fun k => w.heap.size <= k) x0.toTr (.agg #[.string x, .slice A n c])) := by
 have hok := rdText_ok h
 have hsz := rdText_size h
 have hn := valOf_nodes t x0 hv
 have ht := valOf_toTr t x0 hok hv
 have hc : ∀ w, Calls Tryz.prog 121 #[.string s] w (fun e w' => Below w.heap.size w w' /\ ∃ x A n c, e = .returned (.tuple #[.agg #[.string x, .slice A n c], .bool true]) /\ TAt w' (fun k => w.heap.size <= k) x0.toTr (.agg #[.string x, .slice A n c])) := fun w => by
  have := l1Parse_any s w hs
  rw [h] at this
  refine this.mono fun e w' ⟨h1, v, h2, h3⟩ => ?_
  obtain ⟨x, A, n, c, rfl⟩ := h3.form
  exact ⟨h1, x, A, n, c, h2, ht ▸ h3⟩
 have hsh : ∀ (v : Value) (w : World), TAt w (fun _ => True) x0.toTr v -> Calls Tryz.prog 122 #[v] w fun e w' => e = .returned (.bool true) /\ Below w.heap.size w w' := fun v w hp => by
  have := l2Shape_any t v w hok (ht ▸ hp)
  rw [hv] at this
  exact this
 have hsi := fun v w => l2Size_any x0 v w (by omega)
 have HCALL := Lib.hid hc
 have HSH := Lib.hid hsh
 have HSI := Lib.hid hsi
 clear hc hs h hok hv hsh hsi hn hsz ht
 have hd : (decide ((x0.nodes : Int) <= 200)) = decide (x0.nodes <= 200) := by simp; omega
 generalize decide (x0.nodes <= 200) = b at *
 generalize x0.nodes = n0 at *
 go_enter Tryz.func54, Tryz.ntmps54
 go_wp2_with (go_at_call 121; refine (HCALL.out _).mono ?_; rintro e w1 ⟨hb1, x, A, n, c, rfl, hv⟩; have HV := Lib.hid hv; have g0 : w1.heap[w.heap.size]? = some (.cells #[.string (St []), .slice none 0 0] 59 (0, 0)) := block_up hb1 (block_new w _); have c0 : w1.cell? ⟨w.heap.size, 0, none⟩ = some (.string (St [])) := block_cell g0 0; have c1 : w1.cell? ⟨w.heap.size, 1, none⟩ = some (.slice none 0 0) := block_cell g0 1; have f0 := block_free g0 0; have f1 := block_free g0 1; have l0 := lt_of_block g0; have G0 := Lib.hid g0; have HB1 := Lib.hid (up_trans (up1 w _) hb1); clear hb1 g0 hv)
 go_region_with (first
  | (go_at_call 122; (with_reducible refine (HSH.out _ _ ((HV.out.up (up_drew (up1 w1 _))).weak fun _ _ => trivial)).mono ?_); rintro e w2 ⟨rfl, hb2⟩; have g1 : w2.heap[w1.heap.size]? = some (.cells #[.string x, .slice A n c] 59 (0, 0)) := block_up hb2 (block_new w1 _); have k0 : w2.cell? ⟨w1.heap.size, 0, none⟩ = some (.string x) := block_cell g1 0; have k1 : w2.cell? ⟨w1.heap.size, 1, none⟩ = some (.slice A n c) := block_cell g1 1; have g0 := block_up hb2 (block_alloc G0.out _); have G0' := Lib.hid g0; have G1' := Lib.hid g1; have c0' : w2.cell? ⟨w.heap.size, 0, none⟩ = some (.string (St [])) := block_cell g0 0; have c1' : w2.cell? ⟨w.heap.size, 1, none⟩ = some (.slice none 0 0) := block_cell g0 1; have f0' := block_free g0 0; have f1' := block_free g0 1; have l0' := lt_of_block g0; have l1' := lt_of_block g1; have HB2 := Lib.hid (up_trans (up_drew (up_alloc HB1.out _)) hb2); have HV2 : Hid (TAt w2 _ _ _) := Lib.hid ((HV.out.up (up_drew (up1 w1 _))).up hb2); clear hb2 g0 g1)
  | (go_at_call 123; (with_reducible refine (HSI.out _ _ (HV2.out.weak fun _ _ => trivial)).mono ?_); rintro e w3 ⟨rfl, hb3⟩; have g1 := block_up hb3 G1'.out; have g0 := block_up hb3 G0'.out; have k0' : w3.cell? ⟨w1.heap.size, 0, none⟩ = some (.string x) := block_cell g1 0; have k1' : w3.cell? ⟨w1.heap.size, 1, none⟩ = some (.slice A n c) := block_cell g1 1; have c0'' : w3.cell? ⟨w.heap.size, 0, none⟩ = some (.string (St [])) := block_cell g0 0; have c1'' : w3.cell? ⟨w.heap.size, 1, none⟩ = some (.slice none 0 0) := block_cell g0 1; have f0'' := block_free g0 0; have f1'' := block_free g0 1; have l0'' := lt_of_block g0; have l1'' := lt_of_block g1; have HB3 := Lib.hid (up_trans HB2.out hb3); have HV3 : Hid (TAt w3 _ _ _) := Lib.hid (HV2.out.up hb3); clear hb3 g0 g1))
 all_goals go_wp2
 all_goals refine bodyPost_ret (v := .tuple #[.agg #[.string x, .slice A n c], .bool b]) (by simp [results, Tryz.results54, go_sem, c0'', c1'', l0'', <- hd]) rfl ?_
 all_goals exact ⟨by repeat (first | exact HB3.out | refine up_drew ?_ | refine up_alloc ?_ _ | refine set0 ?_ (Nat.le_refl _)), _, _, _, _, rfl, HV3.out.move fun k hk hok => by
  have h' : w.heap.size + 1 <= k := by simpa using hok
  refine ⟨by omega, ?_⟩
  repeat (first | rfl | rw [drew_heap] | rw [Below.heap_setCell _ ⟨w.heap.size, 0, none⟩ _ k (by show k ≠ w.heap.size; omega)] | rw [Below.heap_setCell _ ⟨w.heap.size, 1, none⟩ _ k (by show k ≠ w.heap.size; omega)])⟩
theorem l2Value_any (s : ByteArray) (w : World) (hs : s.size <= 9223372036854775807) : Calls Tryz.prog 54 #[.string s] w (SVPost w (rdVal s.data.toList)) := by
 cases h : rdText s.data.toList with
 | none => rw [show rdVal s.data.toList = none by unfold rdVal; rw [h]]; exact l2Value_none s w hs h
 | some t =>
  cases hv : valOf t with
  | none => rw [show rdVal s.data.toList = none by unfold rdVal; rw [h]; simp only; rw [hv]]; exact l2Value_some s w hs t h hv
  | some v =>
   refine (l2Value_ok s w hs t v h hv).mono fun e w' ⟨hb, x, A, n, c, he, hr⟩ => ?_
   by_cases hn : v.nodes <= 200
   · rw [show rdVal s.data.toList = some v by unfold rdVal; rw [h]; simp only; rw [hv]; simp only; rw [if_neg (by omega)]]
     exact ⟨hb, x, A, n, c, by rw [he, decide_eq_true hn], hr⟩
   · rw [show rdVal s.data.toList = none by unfold rdVal; rw [h]; simp only; rw [hv]; simp only; rw [if_pos (by omega)]]
     exact ⟨hb, x, A, n, c, by rw [he, decide_eq_false hn]⟩
end Go.Proofs.YtpokompplapkhaaGreatDoor

