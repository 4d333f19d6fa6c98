/- The reference's elements: a list that is handed on and grows. -/
import Derived.Test.YtcfecmlfcjgdbaaDoorMC
import Derived.Test.YtcfecmlfcjgdbaaDoorMB
namespace Go.Proofs.YtcfecmlfcjgdbaaDoor
open Go.RowKit
set_option linter.unusedVariables false
set_option linter.unusedSimpArgs false

/-- Each element's name is one. -/
def V.ok : V → Prop
  | .u => True
  | .el s => elemB s = true
  | .l a => a.ok
  | .r a => a.ok
  | .f a => a.ok
  | .p a b => a.ok ∧ b.ok

theorem valTwo_ok {h : List UInt8} {x : Option V} {v : V} (hx : ∀ v, x = some v → v.ok) (hv : valTwo h x = some v) : v.ok := by
  unfold valTwo at hv
  cases x with
  | none => (repeat' split at hv) <;> simp at hv
  | some a =>
    have := hx a rfl
    (repeat' split at hv) <;> simp at hv <;> subst hv <;> exact this
theorem valThree_ok {h : List UInt8} {x y : Option V} {v : V} (hx : ∀ v, x = some v → v.ok) (hy : ∀ v, y = some v → v.ok) (hv : valThree h x y = some v) : v.ok := by
  unfold valThree at hv
  split at hv
  · cases x with
    | none => simp at hv
    | some a =>
      cases y with
      | none => simp at hv
      | some b =>
        simp at hv
        subst hv
        exact ⟨hx a rfl, hy b rfl⟩
  · simp at hv
theorem atomV_ok {s : List UInt8} {x : Option V} {v : V} (hx : ∀ v, x = some v → v.ok) (hv : atomV s x = some v) : v.ok := by
  unfold atomV at hv
  split at hv
  · simp at hv; subst hv; trivial
  · split at hv
    · rename_i he
      simp at hv; subst hv; exact he
    · exact hx v hv
theorem valOf_ok : ∀ (t : Tr) (v : V), valOf t = some v → v.ok
  | .mk s [.mk h q, a], v, hv => by
    simp only [valOf] at hv
    exact atomV_ok (fun v h => valTwo_ok (valOf_ok a) h) hv
  | .mk s [.mk h q, a, b], v, hv => by
    simp only [valOf] at hv
    exact atomV_ok (fun v h => valThree_ok (valOf_ok a) (valOf_ok b) h) hv
  | .mk s [], v, hv => by
    simp only [valOf] at hv
    exact atomV_ok (fun v h => by cases h) hv
  | .mk s [_], v, hv => by
    simp only [valOf] at hv
    exact atomV_ok (fun v h => by cases h) hv
  | .mk s (_ :: _ :: _ :: _ :: _), v, hv => by
    simp only [valOf] at hv
    exact atomV_ok (fun v h => by cases h) hv
theorem rdVal_ok {l : List UInt8} {v : V} (h : rdVal l = some v) : v.ok := by
  unfold rdVal at h
  split at h
  · cases h
  · split at h
    · cases h
    · rename_i hv
      split at h
      · cases h
      · simp at h; subst h; exact valOf_ok _ _ hv

/-- What is left of a list that grows: its row is the old one or a new one. -/
def GPost (w : World) (B g : Nat) (ls : List (List UInt8)) (e : Ending) (w' : World) : Prop :=
  w.grownBy w' (some g) ∧ ∃ g' c', e = .returned (.slice (some ⟨g', 0, none⟩) ls.length c') ∧ SOwn w' B ls g' c' ∧ (g' = g ∨ w.heap.size ≤ g')

theorem grown_trans {w w1 w2 : World} {g g' : Nat} (h : w.grownBy w1 (some g)) (k : w1.grownBy w2 (some g')) (hg : g' = g ∨ w.heap.size ≤ g') : w.grownBy w2 (some g) :=
  ⟨k.os.trans h.os, k.tape.trans h.tape, k.output.trans h.output, Nat.le_trans h.size k.size, fun j hj hne => by
    rw [k.block j (Nat.lt_of_lt_of_le hj h.size) (fun e => by cases e; rcases hg with rfl | hg; exact hne rfl; omega), h.block j hj hne]⟩

/-- Where the loop of l2Elements stands. -/
def LRel (w : World) (B g : Nat) (box : Obj) (ls : List (List UInt8)) (wr : World) (v : Value) : Prop :=
  ∃ g' c', v = .slice (some ⟨g', 0, none⟩) ls.length c' ∧ SOwn wr B ls g' c' ∧ (g' = g ∨ w.heap.size < g') ∧ w.grownBy wr (some g) ∧ wr.heap[w.heap.size]? = some box

theorem LRel.step {w wr w2 : World} {B g g' g2 c2 : Nat} {box : Obj} {ls ms : List (List UInt8)} (hg : g < w.heap.size) (hg' : g' = g ∨ w.heap.size < g') (hgr : w.grownBy wr (some g)) (hbox : wr.heap[w.heap.size]? = some box)
    (k : wr.grownBy w2 (some g')) (ho : SOwn w2 B (ls ++ ms) g2 c2) (h2 : g2 = g' ∨ wr.heap.size ≤ g2) : LRel w B g box (ls ++ ms) w2 (.slice (some ⟨g2, 0, none⟩) (ls ++ ms).length c2) := by
  have hlt := lt_of_block hbox
  refine ⟨g2, c2, rfl, ho, ?_, grown_trans hgr k (by omega), ?_⟩
  · omega
  · rw [k.block _ hlt (fun e => by cases e; omega), hbox]

def LE (x : V) : Prop := ∀ (t : Value) (w : World) (B g c : Nat) (ls : List (List UInt8)), TAt w (fun k => k < B) x.toTr t → SOwn w B ls g c → B ≤ w.heap.size → ls.length + x.elems.length ≤ 1000000 →
  Calls Tryd.prog 46 #[t, .slice (some ⟨g, 0, none⟩) ls.length c] w (GPost w B g (ls ++ x.elems))

theorem below_grown {w w1 : World} {B g : Nat} (h : w.grownBy w1 (some g)) (hg : B ≤ g) (hB : B ≤ w.heap.size) : Below B w w1 :=
  (Below.refl B w).grown h hB (fun k hk => by cases hk; exact hg)

set_option maxHeartbeats 4000000 in
set_option maxRecDepth 100000 in
theorem l2Elements_u : LE .u := by
  intro t w B g c ls hp ho hB hl
  obtain ⟨A, c', rfl, _⟩ := TAt.parts hp
  have hc : ∀ w, Calls Tryd.prog 77 #[.string (St [117])] w fun e w' => e = .returned (.int .i64 (-1)) ∧ w = w' := fun w => l2Element_any (St [117]) w
  simp only [V.elems, List.append_nil]
  have HO := Lib.hid ho
  clear hp ho hl
  go_enter Tryd.func46, Tryd.ntmps46
  go_wp2_with (go_at_call 77; refine (hc _).mono ?_; rintro e w' ⟨rfl, rfl⟩)
  go_loopw [1, 5] (fun l i wr => l = .slice (some ⟨g, 0, none⟩) ls.length c ∧ i = .int .i64 1 ∧ wr = w.alloc (.cells #[.string (St [117]), .slice A 0 c'] 42)) (fun _ _ _ => 0)
  case atStart => exact ⟨rfl, rfl, rfl⟩
  case round =>
    obtain ⟨rfl, rfl, rfl⟩ := hrel
    go_wp2
    go_ret
    exact ⟨World.grownBy_alloc w _ _, _, _, rfl, HO.out.alloc _, .inl rfl⟩

set_option maxHeartbeats 4000000 in
set_option maxRecDepth 100000 in
theorem l2Elements_el (s : List UInt8) (hs : elemB s = true) : LE (.el s) := by
  intro t w B g c ls hp ho hB hl
  obtain ⟨A, c', rfl, _⟩ := TAt.parts hp
  have hc : ∀ w, Calls Tryd.prog 77 #[.string (St s)] w fun e w' => e = .returned (.int .i64 (elemNum s)) ∧ w = w' := fun w => l2Element_any (St s) w
  have hz : decide (elemNum s ≥ 0) = true := by simpa using (elemNum_neg s).2 hs
  have hz' : decide (0 ≤ elemNum s) = true := hz
  simp only [V.elems, List.length_cons, List.length_nil] at hl ⊢
  obtain ⟨i0, hi0, hz0, hz1, hz2⟩ := info_parts Tryd.infoStr
  have HO := Lib.hid ho
  clear hp ho hs
  generalize elemNum s = z at *
  go_enter Tryd.func46, Tryd.ntmps46
  go_wp2_with (first
    | (go_at_call 77; refine (hc _).mono ?_; rintro e w' ⟨rfl, rfl⟩)
    | (at_builtin; refine wpList_append_lies _ rfl _ _ 35 rfl B 9 i0 (.string ⟨#[]⟩) 1 16 Tryd.underlying35 hi0 hz0 hz1 hz2 rfl (by decide) (.slice (some ⟨g, 0, none⟩) ls.length c) ls.length (strs ls) rfl ((HO.out.alloc _).alloc _) ⟨w.heap.size + 1, 0, none⟩ 1 1 [.string (St s)] rfl rfl (World.news_of_block (cs := #[.string (St s)]) (t := 9) (fr := (0, 0)) (by have := heap_alloc_new (w.alloc (.cells #[.string (St s), .slice A 0 c'] 42)) (.cells #[.string (St s)] 9); simpa using this)) (by simp [Value.oneCell']) (by decide) (by unfold maxLen; omega) (by omega) (by simp; omega) (w.heap.size + 2) (by simp) ?_; intro g' cap w2 hown hgrow hat hlt; have HN : Hid (GPost w B g (ls ++ [s]) (.returned (.slice (some ⟨g', 0, none⟩) (ls.length + 1) cap)) w2) := ⟨grown_trans (grown_trans (World.grownBy_alloc w _ _) (World.grownBy_alloc _ _ _) (.inl rfl)) hgrow (.inl rfl), g', cap, by simp, SOwn.of hown (by simp) rfl, by simp [Value.ownBlock] at hat; omega⟩; clear hown hgrow hat hlt))
  go_ret
  exact HN.out

theorem row2 {w : World} {ok : Nat → Prop} {h a : Tr} {ts : List Tr} {b o : Nat} (hr : TRow w ok (h :: a :: ts) (some ⟨b, o, none⟩)) :
    ∃ x A n c, w.cell? ⟨b, o + 2, none⟩ = some (.string x) ∧ w.cell? ⟨b, o + 3, none⟩ = some (.slice A n c) ∧ Hid (TAt w ok a (.agg #[.string x, .slice A n c])) ∧ TRow w ok ts (some ⟨b, o + 4, none⟩) := by
  obtain ⟨_, _, _, _, _, _, _, hr⟩ := hr.at2
  obtain ⟨x, A2, n2, c2, d2, d3, ha, hr⟩ := hr.at2
  exact ⟨x, A2, n2, c2, d2, d3, ha, hr⟩

set_option maxHeartbeats 4000000 in
set_option maxRecDepth 100000 in
theorem l2Elements_two (h : List UInt8) (y a : V) (hy : y.toTr = .mk [] [.mk h [], a.toTr]) (hye : y.elems = a.elems) (ih : LE a) : LE y := by
  intro t w B g c ls hp ho hB hl
  rw [hy] at hp
  rw [hye] at hl ⊢
  obtain ⟨A, c', rfl, hr⟩ := TAt.parts hp
  obtain ⟨b, o, _, _, rfl, _⟩ := hr.uncons
  have HC : Hid (∀ w1, Below B w w1 → ∃ x A n c, w1.cell? ⟨b, o + 2, none⟩ = some (.string x) ∧ w1.cell? ⟨b, o + 3, none⟩ = some (.slice A n c) ∧ Hid (TAt w1 (fun k => k < B) a.toTr (.agg #[.string x, .slice A n c]))) := fun w1 hb => by
    obtain ⟨x, A, n, c, h1, h2, h3, _⟩ := row2 (hr.move (ok' := fun k => k < B) fun k _ hk => ⟨hk, hb.block k hk⟩)
    exact ⟨x, A, n, c, h1, h2, h3⟩
  have hc : ∀ w, Calls Tryd.prog 77 #[.string (St [])] w fun e w' => e = .returned (.int .i64 (-1)) ∧ w = w' := fun w => l2Element_any (St []) w
  have hlen : ([Tr.mk h [], a.toTr] : List Tr).length = 2 := rfl
  rw [hlen]
  obtain ⟨hBg, hgw⟩ := ho.lt
  have IH := Lib.hid ih
  have HO := Lib.hid ho
  clear hp hr ho ih hlen hy hye
  go_enter Tryd.func46, Tryd.ntmps46
  go_wp2_with (go_at_call 77; refine (hc _).mono ?_; rintro e w' ⟨rfl, rfl⟩)
  go_loopw [1, 5] (fun l i wr => (i = .int .i64 1 ∧ Hid (LRel w B g (.cells #[.string (St []), .slice (some ⟨b, o, none⟩) 2 c'] 42 (0, 0)) ls wr l)) ∨ (i = .int .i64 2 ∧ Hid (LRel w B g (.cells #[.string (St []), .slice (some ⟨b, o, none⟩) 2 c'] 42 (0, 0)) (ls ++ a.elems) wr l))) (fun _ i _ => 2 - (intOf i).toNat)
  case atStart => exact .inl ⟨rfl, g, c, rfl, HO.out.alloc _, .inl rfl, World.grownBy_alloc w _ _, block_new w _⟩
  case round =>
    rcases hrel with ⟨rfl, HR⟩ | ⟨rfl, HR⟩
    · obtain ⟨g1, c1, rfl, ho1, hg1, hgr, hbox⟩ := HR.out
      obtain ⟨x, A2, n2, c2, d2, d3, HA⟩ := HC.out wr (below_grown hgr hBg hB)
      have e0 : wr.cell? ⟨w.heap.size, 0, none⟩ = some (.string (St [])) := block_cell hbox 0
      have e1 : wr.cell? ⟨w.heap.size, 1, none⟩ = some (.slice (some ⟨b, o, none⟩) 2 c') := block_cell hbox 1
      have hcall := IH.out _ wr B g1 c1 ls HA.out ho1 (Nat.le_trans hB hgr.size) hl
      have HX : Hid (∀ w2 e, GPost wr B g1 (ls ++ a.elems) e w2 → ∃ v, e = .returned v ∧ LRel w B g (.cells #[.string (St []), .slice (some ⟨b, o, none⟩) 2 c'] 42 (0, 0)) (ls ++ a.elems) w2 v) := fun w2 e ⟨k, g2, c2, he, ho2, h2⟩ => ⟨_, he, LRel.step hgw hg1 hgr hbox k ho2 h2⟩
      have HCALL := Lib.hid hcall
      clear hcall ho1 hgr hbox HR hl
      go_wp2_with (go_at_call 46; refine HCALL.out.mono ?_; rintro e w2 hpost; obtain ⟨v2, rfl, hl2⟩ := HX.out w2 e hpost; have HL2 := Lib.hid hl2; clear hpost hl2)
      go_roundw
      case rel => exact .inr ⟨rfl, HL2⟩
      case measure => simp [intOf]
    · obtain ⟨g1, c1, rfl, ho1, hg1, hgr, hbox⟩ := HR.out
      have e0 : wr.cell? ⟨w.heap.size, 0, none⟩ = some (.string (St [])) := block_cell hbox 0
      have e1 : wr.cell? ⟨w.heap.size, 1, none⟩ = some (.slice (some ⟨b, o, none⟩) 2 c') := block_cell hbox 1
      have HP : Hid (GPost w B g (ls ++ a.elems) (.returned (.slice (some ⟨g1, 0, none⟩) (ls ++ a.elems).length c1)) wr) := ⟨hgr, g1, c1, rfl, ho1, by omega⟩
      clear ho1 hgr hbox HR hl
      go_wp2
      go_ret
      exact HP.out

set_option maxHeartbeats 4000000 in
set_option maxRecDepth 100000 in
theorem l2Elements_three (h : List UInt8) (a a2 : V) (y : V) (hy : y.toTr = .mk [] [.mk h [], a.toTr, a2.toTr]) (hye : y.elems = a.elems ++ a2.elems) (ih : LE a) (ih2 : LE a2) : LE y := by
  intro t w B g c ls hp ho hB hl
  rw [hy] at hp
  rw [hye] at hl ⊢
  obtain ⟨A, c', rfl, hr⟩ := TAt.parts hp
  obtain ⟨b, o, _, _, rfl, _⟩ := hr.uncons
  have HC : Hid (∀ w1, Below B w w1 → ∃ x A n c x' A' n' c', w1.cell? ⟨b, o + 2, none⟩ = some (.string x) ∧ w1.cell? ⟨b, o + 3, none⟩ = some (.slice A n c) ∧ w1.cell? ⟨b, o + 4, none⟩ = some (.string x') ∧ w1.cell? ⟨b, o + 5, none⟩ = some (.slice A' n' c') ∧ Hid (TAt w1 (fun k => k < B) a.toTr (.agg #[.string x, .slice A n c])) ∧ Hid (TAt w1 (fun k => k < B) a2.toTr (.agg #[.string x', .slice A' n' c']))) := fun w1 hb => by
    obtain ⟨x, A, n, c, h1, h2, h3, hr2⟩ := row2 (hr.move (ok' := fun k => k < B) fun k _ hk => ⟨hk, hb.block k hk⟩)
    obtain ⟨x', A', n', c', h1', h2', h3', _⟩ := hr2.at2
    exact ⟨x, A, n, c, x', A', n', c', h1, h2, h1', h2', h3, h3'⟩
  have hc : ∀ w, Calls Tryd.prog 77 #[.string (St [])] w fun e w' => e = .returned (.int .i64 (-1)) ∧ w = w' := fun w => l2Element_any (St []) w
  have hlen : ([Tr.mk h [], a.toTr, a2.toTr] : List Tr).length = 3 := rfl
  rw [hlen]
  obtain ⟨hBg, hgw⟩ := ho.lt
  have IH := Lib.hid ih
  have IH2 := Lib.hid ih2
  have HO := Lib.hid ho
  simp only [List.length_append] at hl
  rw [← List.append_assoc]
  obtain ⟨m1, hm1⟩ : ∃ m, m = ls ++ a.elems := ⟨_, rfl⟩
  obtain ⟨m2, hm2⟩ : ∃ m, m = m1 ++ a2.elems := ⟨_, rfl⟩
  have hl1 : m1.length = ls.length + a.elems.length := by rw [hm1]; simp
  rw [← hm1, ← hm2]
  clear hp hr ho ih ih2 hlen hy hye
  go_enter Tryd.func46, Tryd.ntmps46
  go_wp2_with (go_at_call 77; refine (hc _).mono ?_; rintro e w' ⟨rfl, rfl⟩)
  go_loopw [1, 5] (fun l i wr => (i = .int .i64 1 ∧ Hid (LRel w B g (.cells #[.string (St []), .slice (some ⟨b, o, none⟩) 3 c'] 42 (0, 0)) ls wr l)) ∨ (i = .int .i64 2 ∧ Hid (LRel w B g (.cells #[.string (St []), .slice (some ⟨b, o, none⟩) 3 c'] 42 (0, 0)) m1 wr l)) ∨ (i = .int .i64 3 ∧ Hid (LRel w B g (.cells #[.string (St []), .slice (some ⟨b, o, none⟩) 3 c'] 42 (0, 0)) m2 wr l))) (fun _ i _ => 3 - (intOf i).toNat)
  case atStart => exact .inl ⟨rfl, g, c, rfl, HO.out.alloc _, .inl rfl, World.grownBy_alloc w _ _, block_new w _⟩
  case round =>
    rcases hrel with ⟨rfl, HR⟩ | ⟨rfl, HR⟩ | ⟨rfl, HR⟩
    · obtain ⟨g1, c1, rfl, ho1, hg1, hgr, hbox⟩ := HR.out
      obtain ⟨x, A2, n2, c2, _, _, _, _, d2, d3, _, _, HA, _⟩ := HC.out wr (below_grown hgr hBg hB)
      have e0 : wr.cell? ⟨w.heap.size, 0, none⟩ = some (.string (St [])) := block_cell hbox 0
      have e1 : wr.cell? ⟨w.heap.size, 1, none⟩ = some (.slice (some ⟨b, o, none⟩) 3 c') := block_cell hbox 1
      have hcall := IH.out _ wr B g1 c1 ls HA.out ho1 (Nat.le_trans hB hgr.size) (by omega)
      rw [← hm1] at hcall
      have HX : Hid (∀ w2 e, GPost wr B g1 m1 e w2 → ∃ v, e = .returned v ∧ LRel w B g (.cells #[.string (St []), .slice (some ⟨b, o, none⟩) 3 c'] 42 (0, 0)) m1 w2 v) := by rw [hm1]; exact fun w2 e ⟨k, g2, c2, he, ho2, h2⟩ => ⟨_, he, LRel.step hgw hg1 hgr hbox k ho2 h2⟩
      have HCALL := Lib.hid hcall
      clear hcall ho1 hgr hbox HR hl hm1 hm2 hl1
      go_wp2_with (go_at_call 46; refine HCALL.out.mono ?_; rintro e w2 hpost; obtain ⟨v2, rfl, hl2⟩ := HX.out w2 e hpost; have HL2 := Lib.hid hl2; clear hpost hl2)
      go_roundw
      case rel => exact .inr (.inl ⟨rfl, HL2⟩)
      case measure => simp [intOf]
    · obtain ⟨g1, c1, rfl, ho1, hg1, hgr, hbox⟩ := HR.out
      obtain ⟨_, _, _, _, x, A2, n2, c2, _, _, d2, d3, _, HA⟩ := HC.out wr (below_grown hgr hBg hB)
      have e0 : wr.cell? ⟨w.heap.size, 0, none⟩ = some (.string (St [])) := block_cell hbox 0
      have e1 : wr.cell? ⟨w.heap.size, 1, none⟩ = some (.slice (some ⟨b, o, none⟩) 3 c') := block_cell hbox 1
      have hcall := IH2.out _ wr B g1 c1 m1 HA.out ho1 (Nat.le_trans hB hgr.size) (by omega)
      rw [← hm2] at hcall
      have HX : Hid (∀ w2 e, GPost wr B g1 m2 e w2 → ∃ v, e = .returned v ∧ LRel w B g (.cells #[.string (St []), .slice (some ⟨b, o, none⟩) 3 c'] 42 (0, 0)) m2 w2 v) := by rw [hm2]; exact fun w2 e ⟨k, g2, c2, he, ho2, h2⟩ => ⟨_, he, LRel.step hgw hg1 hgr hbox k ho2 h2⟩
      have HCALL := Lib.hid hcall
      clear hcall ho1 hgr hbox HR hl hm1 hm2 hl1
      go_wp2_with (go_at_call 46; refine HCALL.out.mono ?_; rintro e w2 hpost; obtain ⟨v2, rfl, hl2⟩ := HX.out w2 e hpost; have HL2 := Lib.hid hl2; clear hpost hl2)
      go_roundw
      case rel => exact .inr (.inr ⟨rfl, HL2⟩)
      case measure => simp [intOf]
    · obtain ⟨g1, c1, rfl, ho1, hg1, hgr, hbox⟩ := HR.out
      have e0 : wr.cell? ⟨w.heap.size, 0, none⟩ = some (.string (St [])) := block_cell hbox 0
      have e1 : wr.cell? ⟨w.heap.size, 1, none⟩ = some (.slice (some ⟨b, o, none⟩) 3 c') := block_cell hbox 1
      have HP : Hid (GPost w B g m2 (.returned (.slice (some ⟨g1, 0, none⟩) m2.length c1)) wr) := ⟨hgr, g1, c1, rfl, ho1, by omega⟩
      clear ho1 hgr hbox HR hl
      go_wp2
      go_ret
      exact HP.out

theorem l2Elements_any : ∀ (x : V), x.ok → LE x
  | .u, _ => l2Elements_u
  | .el s, h => l2Elements_el s h
  | .l a, h => l2Elements_two _ _ a rfl rfl (l2Elements_any a h)
  | .r a, h => l2Elements_two _ _ a rfl rfl (l2Elements_any a h)
  | .f a, h => l2Elements_two _ _ a rfl rfl (l2Elements_any a h)
  | .p a b, h => l2Elements_three _ a b _ rfl rfl (l2Elements_any a h.1) (l2Elements_any b h.2)

end Go.Proofs.YtcfecmlfcjgdbaaDoor
