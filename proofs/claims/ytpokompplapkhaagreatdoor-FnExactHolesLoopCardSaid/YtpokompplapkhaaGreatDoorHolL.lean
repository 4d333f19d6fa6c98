/- The program's HolesLoop. -/
import Derived.Test.YtpokompplapkhaaGreatDoorHolE
import Derived.Test.YtpokompplapkhaaGreatDoorTk
namespace Go.Proofs.YtpokompplapkhaaGreatDoor
open Go.RowKit
set_option linter.unusedVariables false
set_option linter.unusedSimpArgs false
set_option linter.constructorNameAsVariable false


/-- A value of a closed rec type. -/
def lvOf (l v : List UInt8) : Option (List UInt8 × NT × V) := match valsOf l v 100 with
  | some (.loop y a, .f u) => some (y, a, u)
  | _ => none
theorem lvOf_some {l v : List UInt8} {y : List UInt8} {a : NT} {u : V} (h : lvOf l v = some (y, a, u)) : valsOf l v 100 = some (.loop y a, .f u) := by
  unfold lvOf at h
  split at h
  · rename_i ho
    cases h
    exact ho
  · cases h
/-- The holes of what is in a value of a closed rec type. -/
def hlB (l v : List UInt8) : Option (List (V × V)) := (lvOf l v).map fun q => hol (q.2.1.db [q.1]) (.bd 0) q.2.2
/-- A closed rec type. -/
def isLoop : NT → Bool
  | .loop _ _ => true
  | _ => false
theorem hlB_ok {l v : List UInt8} {hs : List (V × V)} (h : hlB l v = some hs) : HsOk hs ∧ hs.length ≤ 200 := by
  unfold hlB at h
  cases ho : lvOf l v with
  | none => rw [ho] at h; cases h
  | some q =>
    obtain ⟨y, a, u⟩ := q
    rw [ho] at h
    cases h
    obtain ⟨hc, hr, _, _, hty⟩ := valsOf_some (lvOf_some ho)
    obtain ⟨hvt, hok, hnd⟩ := rdVal_tr hr
    have hok : u.ok := hok
    simp only [V.nodes] at hnd
    refine ⟨fun p hm => ?_, by have := hol_len (a.db [y]) (.bd 0) u; simp only; omega⟩
    obtain ⟨h1, h2⟩ := hol_ok hok hm
    have h3 := hol_ctx hm
    have h4 := hol_size hm
    simp only at h3 h4
    exact ⟨h1, h2, by omega, by omega⟩
/-- What loopType gives. -/
def LTPost (w : World) (o : Option NT) (e : Ending) (w' : World) : Prop := Below w.heap.size w w' ∧ ((∃ N, o = some N ∧ isLoop N = true ∧ ∃ g, e = .returned (.pointer (some ⟨g, 0, none⟩))) ∨ (∀ N, o = some N → isLoop N = false) ∧ e = .returned (.pointer none))
set_option maxHeartbeats 1000000 in
/-- A closed rec type, or none. -/
theorem loopType_any (s : ByteArray) (w : World) (hs : s.size ≤ 9223372036854775807) : Calls Tryz.prog 127 #[.string s] w (LTPost w (clTy s.data.toList)) := by
  have H1 := closedType_any s w hs
  clear hs
  cases hc : clTy s.data.toList with
  | none =>
    rw [hc] at H1
    have HC : Hid (Calls Tryz.prog 94 #[.string s] w fun e w' => Below w.heap.size w w' ∧ e = .returned (.pointer none)) := H1
    have HQ : Hid (∀ w', Below w.heap.size w w' → LTPost w none (.returned (.pointer none)) w') := fun w' h => ⟨h, .inr ⟨fun N h => (by cases h), rfl⟩⟩
    generalize LTPost w none = Q at *
    clear H1 hc
    go_enter Tryz.func127, Tryz.ntmps127
    go_wp2_with (go_at_call 94; refine HC.out.mono ?_; rintro e w1 ⟨hb1, rfl⟩; have HB1 := Lib.hid hb1; clear hb1)
    exact HQ.out _ HB1.out
  | some N =>
    rw [hc] at H1
    have HC : Hid (Calls Tryz.prog 94 #[.string s] w fun e w' => Below w.heap.size w w' ∧ ∃ g, e = .returned (.pointer (some ⟨g, 0, none⟩)) ∧ TyAt w' (N.db []) (some ⟨g, 0, none⟩)) := H1
    have HSG : ∃ sg : Int, (isLoop N = true → sg = 114) ∧ (isLoop N = false → (sg == 114) = false ∧ decide (sg = 114) = false ∧ (sg != 114) = true) ∧ ∀ w' g, TyAt w' (N.db []) (some ⟨g, 0, none⟩) → w'.cell? ⟨g, 0, none⟩ = some (.int .u8 sg) := by
      cases N with
      | zero => exact ⟨48, fun h => (by cases h), fun _ => ⟨rfl, rfl, rfl⟩, fun w' g ⟨_, h, hb⟩ => by cases h; exact block_cell hb 0⟩
      | one => exact ⟨49, fun h => (by cases h), fun _ => ⟨rfl, rfl, rfl⟩, fun w' g ⟨_, h, hb⟩ => by cases h; exact block_cell hb 0⟩
      | sum a b => exact ⟨43, fun h => (by cases h), fun _ => ⟨rfl, rfl, rfl⟩, fun w' g ⟨_, _, ⟨_, h, hb⟩, _⟩ => by cases h; exact block_cell hb 0⟩
      | prod a b => exact ⟨42, fun h => (by cases h), fun _ => ⟨rfl, rfl, rfl⟩, fun w' g ⟨_, _, ⟨_, h, hb⟩, _⟩ => by cases h; exact block_cell hb 0⟩
      | loop y a => exact ⟨114, fun _ => rfl, fun h => (by cases h), fun w' g ⟨_, ⟨_, h, hb⟩, _⟩ => by cases h; exact block_cell hb 0⟩
      | name s =>
        refine ⟨110, fun h => (by cases h), fun _ => ⟨rfl, rfl, rfl⟩, fun w' g h => ?_⟩
        have hn : (NT.name s).db [] = .name s := by simp only [NT.db]; split <;> rfl
        rw [hn] at h
        obtain ⟨_, h, hb⟩ := h
        cases h
        exact block_cell hb 0
    obtain ⟨sg, hs1, hs2, hcell⟩ := HSG
    have HCE := Lib.hid hcell
    cases hl : isLoop N with
    | true =>
      obtain rfl := hs1 hl
      have HQ : Hid (∀ w' g, Below w.heap.size w w' → LTPost w (some N) (.returned (.pointer (some ⟨g, 0, none⟩))) w') := fun w' g h => ⟨h, .inl ⟨N, rfl, hl, g, rfl⟩⟩
      generalize LTPost w (some N) = Q at *
      clear H1 hc hl hs1 hs2 hcell
      go_enter Tryz.func127, Tryz.ntmps127
      go_wp2_with (go_at_call 94; refine HC.out.mono ?_; rintro e w1 ⟨hb1, g1, rfl, ht1⟩; have c0 := HCE.out w1 g1 ht1; have lg := World.block_lt_of_cell? w1 _ c0; have HB1 := Lib.hid hb1; clear hb1 ht1)
      exact HQ.out _ _ HB1.out
    | false =>
      obtain ⟨k1, k2, k3⟩ := hs2 hl
      have HQ : Hid (∀ w', Below w.heap.size w w' → LTPost w (some N) (.returned (.pointer none)) w') := fun w' h => ⟨h, .inr ⟨fun M hM => (by cases hM; exact hl), rfl⟩⟩
      generalize LTPost w (some N) = Q at *
      clear H1 hc hl hs1 hs2 hcell
      go_enter Tryz.func127, Tryz.ntmps127
      go_wp2_with (go_at_call 94; refine HC.out.mono ?_; rintro e w1 ⟨hb1, g1, rfl, ht1⟩; have c0 := HCE.out w1 g1 ht1; have lg := World.block_lt_of_cell? w1 _ c0; have HB1 := Lib.hid hb1; clear hb1 ht1)
      exact HQ.out _ HB1.out
/-- What loopValue does. -/
def LVPost (w : World) (o : Option (List UInt8 × NT × V)) (e : Ending) (w' : World) : Prop :=
  Below w.heap.size w w' ∧ match o with
    | some (y, a, u) => ∃ g q, e = .returned (.tuple #[.pointer (some ⟨g, 0, none⟩), .pointer (some ⟨q, 0, none⟩)]) ∧ TyAt w' ((NT.loop y a).db []) (some ⟨g, 0, none⟩) ∧ VAt w' (.f u) (some ⟨q, 0, none⟩)
    | none => ∃ p, e = .returned (.tuple #[.pointer p, .pointer none])
set_option maxHeartbeats 4000000 in
set_option maxRecDepth 100000 in
theorem loopValue_any (s v : ByteArray) (w : World) (hs : s.size ≤ 9223372036854775807) (hv : v.size ≤ 9223372036854775807) : Calls Tryz.prog 62 #[.string s, .string v] w (LVPost w (lvOf s.data.toList v.data.toList)) := by
  have H1 := loopType_any s w hs
  have H2 := Lib.hid fun w1 => valueOf_any s v 100 w1 hs hv
  have hsome := fun N x h => valsOf_some (l := s.data.toList) (v := v.data.toList) (n := 100) (N := N) (x := x) h
  clear hs hv
  by_cases hc : ∃ N, clTy s.data.toList = some N ∧ isLoop N = true
  · have HL : Hid (Calls Tryz.prog 127 #[.string s] w fun e w' => Below w.heap.size w w' ∧ ∃ g, e = .returned (.pointer (some ⟨g, 0, none⟩))) := Lib.hid <| H1.mono fun e w' ⟨hb, h⟩ => ⟨hb, by
      rcases h with ⟨N, _, _, g, he⟩ | ⟨h, _⟩
      · exact ⟨g, he⟩
      · obtain ⟨N, h1, h2⟩ := hc
        rw [h N h1] at h2
        cases h2⟩
    have HV : Hid (∀ w1, Below w.heap.size w w1 → Calls Tryz.prog 51 #[.string s, .string v, .int .i64 100] w1 fun e w' => ∃ p q, e = .returned (.tuple #[.pointer p, .pointer q]) ∧ LVPost w (lvOf s.data.toList v.data.toList) (.returned (.tuple #[.pointer p, .pointer q])) w') := fun w1 hw => (H2.out w1).mono fun e w' ⟨hb, h⟩ => by
      cases ho : valsOf s.data.toList v.data.toList 100 with
      | none =>
        rw [ho] at h
        obtain ⟨p, he⟩ := h
        refine ⟨p, none, he, up_trans hw hb, ?_⟩
        have : lvOf s.data.toList v.data.toList = none := by unfold lvOf; rw [ho]
        rw [this]
        exact ⟨p, rfl⟩
      | some q =>
        obtain ⟨N, x⟩ := q
        rw [ho] at h
        obtain ⟨g, q, he, ht, hv⟩ := h
        obtain ⟨N', h1, h2⟩ := hc
        obtain ⟨hcl, _, _, _, hty⟩ := hsome N x ho
        rw [hcl] at h1
        cases h1
        refine ⟨_, _, he, up_trans hw hb, ?_⟩
        cases N with
        | loop y a =>
          cases x with
          | f u =>
            have : lvOf s.data.toList v.data.toList = some (y, a, u) := by unfold lvOf; rw [ho]
            rw [this]
            exact ⟨g, q, rfl, ht, hv⟩
          | _ => cases hty
        | _ => cases h2
    generalize LVPost w (lvOf s.data.toList v.data.toList) = Q at *
    clear H1 H2 hsome hc
    go_enter Tryz.func62, Tryz.ntmps62
    go_wp2_with (first
      | (go_at_call 127; refine HL.out.mono ?_; rintro e w1 ⟨hb1, g1, rfl⟩; have HB1 := Lib.hid hb1; clear hb1)
      | (go_at_call 51; (with_reducible refine (HV.out _ HB1.out).mono ?_); rintro e w2 ⟨p2, q2, rfl, hq2⟩; have HQ2 := Lib.hid hq2; clear hq2))
    exact HQ2.out
  · have HL : Hid (Calls Tryz.prog 127 #[.string s] w fun e w' => Below w.heap.size w w' ∧ e = .returned (.pointer none)) := Lib.hid <| H1.mono fun e w' ⟨hb, h⟩ => ⟨hb, by
      rcases h with ⟨N, h1, h2, _⟩ | ⟨_, he⟩
      · exact absurd ⟨N, h1, h2⟩ hc
      · exact he⟩
    have hn : lvOf s.data.toList v.data.toList = none := by
      unfold lvOf
      split
      · rename_i y a u ho
        obtain ⟨hcl, _⟩ := hsome _ _ ho
        exact absurd ⟨_, hcl, rfl⟩ hc
      · rfl
    have HQ : Hid (∀ w', Below w.heap.size w w' → LVPost w none (.returned (.tuple #[.pointer none, .pointer none])) w') := fun w' h => ⟨h, none, rfl⟩
    rw [hn]
    generalize LVPost w none = Q at *
    clear H1 H2 hsome hc hn
    go_enter Tryz.func62, Tryz.ntmps62
    go_wp2_with (go_at_call 127; refine HL.out.mono ?_; rintro e w1 ⟨hb1, rfl⟩; have HB1 := Lib.hid hb1; clear hb1)
    exact HQ.out _ HB1.out
set_option maxHeartbeats 8000000 in
set_option maxRecDepth 100000 in
theorem loopHoles_any (a : Ty) (u : V) (w : World) (g q : Nat) (ht : TyAt w (.loop a) (some ⟨g, 0, none⟩)) (hv : VAt w (.f u) (some ⟨q, 0, none⟩)) (hs : a.scoped 1) (hbs : a.bs) (hty : u.isOf 100 [.loop a] a = true) (hn : u.nodes ≤ 100000) :
    Calls Tryz.prog 63 #[.pointer (some ⟨g, 0, none⟩), .pointer (some ⟨q, 0, none⟩)] w (HPost w (hol a (.bd 0) u)) := by
  obtain ⟨pa, ⟨_, hg, hb⟩, ha⟩ := id ht
  cases hg
  obtain ⟨px, ⟨gv, hq, hbv⟩, hx⟩ := hv
  cases hq
  have HI : Hid (Calls Tryz.prog 118 #[.agg #[.pointer (some ⟨g, 0, none⟩), .pointer none]] w (InPost w (.loop a) pa [])) := inside_any g 114 [] 0 pa none none w (.loop a) [] hb ht rfl
  have HC : Hid (∀ w1 f' g', Below w.heap.size w w1 → FAt w1 [(.loop a, f')] (some ⟨g', 0, none⟩) → Calls Tryz.prog 53 #[.agg #[.pointer pa, .pointer (some ⟨g', 0, none⟩)], .pointer px, .agg #[.string ⟨#[]⟩, .pointer (some ⟨f', 0, none⟩)]] w1 (HPost w1 (hol a (.bd 0) u))) := fun w1 f' g' h hF => hol_any _ u (Nat.le_refl _) a [(.loop a, f')] w1 pa (some ⟨g', 0, none⟩) px (.bd 0) [] (some ⟨f', 0, none⟩) (ha.up h) hF (hx.up h) hs hbs (by simp) ⟨(.loop a, f'), rfl, rfl⟩ hty hn
  have HX : Hid (∀ w', Below w.heap.size w w' → w'.cell? ⟨q, 2, none⟩ = some (.pointer px) ∧ q < w'.heap.size) := fun w' h => ⟨block_cell (block_up h hbv) 2, lt_of_block (block_up h hbv)⟩
  generalize hol a (.bd 0) u = out at *
  have HQ : Hid (∀ w1 w' g5 c5 us5, Below w.heap.size w w1 → Below w1.heap.size w1 w' → (w1.heap.size ≤ g5 ∧ g5 < w'.heap.size ∧ RCells w' (some ⟨g5, 0, none⟩) us5 ∧ HL w' out us5) → HPost w out (.returned (.slice (some ⟨g5, 0, none⟩) out.length c5)) w') := fun w1 w' g5 c5 us5 h1 h2 h3 => ⟨up_trans h1 h2, g5, c5, us5, rfl, Nat.le_trans h1.size h3.1, h3.2.1, h3.2.2.1, h3.2.2.2⟩
  generalize HPost w out = Q at *
  clear ht hb ha hbv hx hs hbs hty hn
  go_enter Tryz.func63, Tryz.ntmps63
  go_wp2_with (go_at_call 118; refine HI.out.mono ?_; rintro e w1 ⟨f2, g2, rfl, hf1, hf2, hF, hb1⟩; have HB1 := Lib.hid hb1; have HF := Lib.hid hF; clear hb1 hF hf1 hf2)
  have BW := up1 w1 (.cells #[.pointer pa, .pointer (some ⟨g2, 0, none⟩)] 71)
  have CW := block_new w1 (.cells #[.pointer pa, .pointer (some ⟨g2, 0, none⟩)] 71)
  generalize (w1.alloc (.cells #[.pointer pa, .pointer (some ⟨g2, 0, none⟩)] 71)) = W1 at *
  have HBW : Hid (Below w.heap.size w W1) := up_trans HB1.out BW
  have HFW := Lib.hid (HF.out.up BW)
  have HS : Hid (∀ w', Below W1.heap.size W1 w' → w'.cell? ⟨w1.heap.size, 0, none⟩ = some (.pointer pa) ∧ w'.cell? ⟨w1.heap.size, 1, none⟩ = some (.pointer (some ⟨g2, 0, none⟩)) ∧ w'.cell? ⟨q, 2, none⟩ = some (.pointer px)) := fun w' h => ⟨block_cell (block_up h CW) 0, block_cell (block_up h CW) 1, (HX.out w' (up_trans HBW.out h)).1⟩
  have HC1 : Hid (∀ w3, Below W1.heap.size W1 w3 → Calls Tryz.prog 53 #[.agg #[.pointer pa, .pointer (some ⟨g2, 0, none⟩)], .pointer px, .agg #[.string ⟨#[]⟩, .pointer (some ⟨f2, 0, none⟩)]] w3 (fun e w' => Below w3.heap.size w3 w' ∧ ∃ g c us, e = .returned (.slice (some ⟨g, 0, none⟩) out.length c) ∧ w3.heap.size ≤ g ∧ g < w'.heap.size ∧ RCells w' (some ⟨g, 0, none⟩) us ∧ HL w' out us)) := fun w3 h => HC.out w3 f2 g2 (up_trans HBW.out h) (HFW.out.up h)
  obtain ⟨s0, s1, s2⟩ := HS.out W1 (Below.refl _ _)
  clear BW CW
  refine wp_region_noPanic ?_
  refine wp_region_held_drew (S := (fun w' => w'.cell? ⟨w1.heap.size, 0, none⟩ = some (.pointer pa) ∧ w'.cell? ⟨w1.heap.size, 1, none⟩ = some (.pointer (some ⟨g2, 0, none⟩)) ∧ w'.cell? ⟨q, 2, none⟩ = some (.pointer px))) (by kernel_rfl) (by exact HS.out _ (up_drew (Below.refl _ _))) (fun hHeld => ?_)
  refine tk 0 ?_ rfl ?_ ?_
  rotate_left
  · intro W hSW; (try dsimp only at hSW); go_simp; try with_reducible rfl
  try simp only [Act.put, zA, zB, zC, zD, zE, zF]
  refine tk 1 ?_ rfl ?_ ?_
  rotate_left
  · intro W hSW; (try dsimp only at hSW); go_simp; try with_reducible rfl
  try simp only [Act.put, zA, zB, zC, zD, zE, zF]
  refine tk 2 ?_ rfl ?_ ?_
  rotate_left
  · intro W hSW; (try dsimp only at hSW); go_simp; try with_reducible rfl
  try simp only [Act.put, zA, zB, zC, zD, zE, zF]
  refine tk 3 ?_ rfl ?_ ?_
  rotate_left
  · intro W hSW; (try dsimp only at hSW); go_simp; try with_reducible rfl
  try simp only [Act.put, zA, zB, zC, zD, zE, zF]
  refine tk 4 ?_ rfl ?_ ?_
  rotate_left
  · intro W hSW; (try dsimp only at hSW); go_simp; try with_reducible rfl
  try simp only [Act.put, zA, zB, zC, zD, zE, zF]
  refine tk 5 ?_ rfl ?_ ?_
  rotate_left
  · intro W hSW; (try dsimp only at hSW); go_simp; try with_reducible rfl
  try simp only [Act.put, zA, zB, zC, zD, zE, zF]
  refine tk 6 ?_ rfl ?_ ?_
  rotate_left
  · intro W hSW; (try dsimp only at hSW); go_simp; try with_reducible rfl
  try simp only [Act.put, zA, zB, zC, zD, zE, zF]
  refine wpAnyH_ready (rs := [7]) (by kernel_rfl) (by simp) ?_
  refine AllReadyH.cons rfl (fun K hK => ?_) AllReadyH.nil
  go_simp
  go_at_call 53
  (with_reducible refine (HC1.out _ (up_drew (Below.refl _ _))).mono ?_)
  rintro e w5 hp5
  obtain ⟨hb5, g5, c5, us5, rfl, hr5⟩ := hp5
  have HB5 : Hid (Below W1.heap.size W1 w5) := up_trans (up_drew (Below.refl _ _)) hb5
  have HR5 := Lib.hid hr5
  clear hb5 hr5
  refine hK.out _ _ (by exact HS.out _ HB5.out) (fun hHeld => ?_)
  clear hK
  try simp only [Act.put, zA, zB, zC, zD, zE, zF]
  refine tk 8 ?_ rfl ?_ ?_
  rotate_left
  · intro W hSW; (try dsimp only at hSW); go_simp; try with_reducible rfl
  try simp only [Act.put, zA, zB, zC, zD, zE, zF]
  refine wpAnyH_done (by kernel_rfl) ?_ _
  refine NoPanic.normal ?_
  go_wp2
  exact HQ.out W1 _ _ _ us5 HBW.out HB5.out HR5.out
set_option maxHeartbeats 8000000 in
set_option maxRecDepth 100000 in
theorem HolesLoop_any (s v : ByteArray) (w : World) (hs : s.size ≤ 9223372036854775807) (hv : v.size ≤ 9223372036854775807) :
    Calls Tryz.prog 24 #[.string s, .string v] w (HTPost w (hlB s.data.toList v.data.toList)) := by
  have H := loopValue_any s v w hs hv
  have hokB := fun hs h => hlB_ok (l := s.data.toList) (v := v.data.toList) (hs := hs) h
  have hlv : ∀ y a u, lvOf s.data.toList v.data.toList = some (y, a, u) → valsOf s.data.toList v.data.toList 100 = some (.loop y a, .f u) ∧ hlB s.data.toList v.data.toList = some (hol (a.db [y]) (.bd 0) u) := fun y a u h => ⟨lvOf_some h, by unfold hlB; rw [h]; rfl⟩
  have hln : lvOf s.data.toList v.data.toList = none → hlB s.data.toList v.data.toList = none := fun h => by unfold hlB; rw [h]; rfl
  clear hs hv
  cases ho : lvOf s.data.toList v.data.toList with
  | none =>
    rw [ho] at H
    rw [hln ho]
    have HV : Hid (Calls Tryz.prog 62 #[.string s, .string v] w fun e w' => Below w.heap.size w w' ∧ ∃ p, e = .returned (.tuple #[.pointer p, .pointer none])) := H
    have HNONE : Hid (∀ w', Below w.heap.size w w' → HTPost w none (.returned (.tuple #[.slice none 0 0, .bool false])) w') := fun w' hb => ⟨hb, _, _, rfl⟩
    generalize HTPost w none = Q at *
    clear H hokB hlv hln ho
    go_enter Tryz.func24, Tryz.ntmps24
    go_wp2_with (go_at_call 62; refine HV.out.mono ?_; rintro e w1 ⟨hb1, p1, rfl⟩; have HB1 := Lib.hid hb1; clear hb1)
    exact HNONE.out _ HB1.out
  | some q =>
    obtain ⟨y, a, u⟩ := q
    obtain ⟨hv1, hz⟩ := hlv y a u ho
    obtain ⟨hok, hl⟩ := hokB _ hz
    obtain ⟨hc, hr, _, _, hty⟩ := valsOf_some hv1
    have hnd := rdVal_nodes hr
    obtain ⟨_, hNo, hNa, _⟩ := clTy_some hc
    rw [ho] at H
    have HV : Hid (Calls Tryz.prog 62 #[.string s, .string v] w fun e w' => Below w.heap.size w w' ∧ ∃ g q, e = .returned (.tuple #[.pointer (some ⟨g, 0, none⟩), .pointer (some ⟨q, 0, none⟩)]) ∧ TyAt w' (.loop (a.db [y])) (some ⟨g, 0, none⟩) ∧ VAt w' (.f u) (some ⟨q, 0, none⟩)) := H
    have hsc := db_scoped (NT.loop y a) []
    have hbs := scoped_bs _ 0 (db_scoped (NT.loop y a) []) (by rw [NT.db_atoms]; omega)
    have HH : Hid (∀ w1 g q, TyAt w1 (.loop (a.db [y])) (some ⟨g, 0, none⟩) → VAt w1 (.f u) (some ⟨q, 0, none⟩) → Calls Tryz.prog 63 #[.pointer (some ⟨g, 0, none⟩), .pointer (some ⟨q, 0, none⟩)] w1 (HPost w1 (hol (a.db [y]) (.bd 0) u))) := fun w1 g q h1 h2 => loopHoles_any _ u w1 g q h1 h2 hsc hbs hty (by simp only [V.nodes] at hnd; omega)
    have HTX : Hid (∀ w1 A c us, RCells w1 A us → HL w1 (hol (a.db [y]) (.bd 0) u) us → Calls Tryz.prog 58 #[.slice A (hol (a.db [y]) (.bd 0) u).length c] w1 fun e w' => Below w1.heap.size w1 w' ∧ ∃ g c', e = .returned (.slice (some ⟨g, 0, none⟩) (hol (a.db [y]) (.bd 0) u).length c') ∧ POwn w' w1.heap.size (fl (hol (a.db [y]) (.bd 0) u)) g (hol (a.db [y]) (.bd 0) u).length c') := fun w1 A c us h1 h2 => holeTexts_any _ A c us w1 h1 h2 hok (by omega)
    rw [hz]
    generalize hol (a.db [y]) (.bd 0) u = out at *
    have HQ : Hid (∀ w1 w' g c, Below w.heap.size w w1 → Below w1.heap.size w1 w' → POwn w' w1.heap.size (fl out) g out.length c → HTPost w (some out) (.returned (.tuple #[.slice (some ⟨g, 0, none⟩) out.length c, .bool true])) w') := fun w1 w' g c h1 h2 h3 => ⟨up_trans h1 h2, g, c, rfl, World.ownsRow.mono h3 h1.size⟩
    generalize HTPost w (some out) = Q at *
    clear H hokB hlv hln ho hv1 hz hc hr hty hnd hNo hNa hsc hbs
    go_enter Tryz.func24, Tryz.ntmps24
    go_wp2_with (first
      | (go_at_call 62; refine HV.out.mono ?_; rintro e w1 ⟨hb1, g1, q1, rfl, ht1, hv1⟩; have HB1 := Lib.hid hb1; have HT1 := Lib.hid ht1; have HV1 := Lib.hid hv1; clear hb1 ht1 hv1)
      | (go_at_call 63; (with_reducible refine (HH.out _ _ _ HT1.out HV1.out).mono ?_); rintro e w3 ⟨hb3, g3, c3, us3, rfl, _, _, hr3, hl3⟩; have HB3 := Lib.hid (up_trans HB1.out hb3); have HR3 := Lib.hid hr3; have HL3 := Lib.hid hl3; clear hb3 hr3 hl3)
      | (go_at_call 58; (with_reducible refine (HTX.out _ _ _ _ HR3.out HL3.out).mono ?_); rintro e w4 ⟨hb4, g4, c4, rfl, ho4⟩; have HB4 := Lib.hid hb4; have HO4 := Lib.hid ho4; clear hb4 ho4))
    exact HQ.out _ _ _ _ HB3.out HB4.out HO4.out

end Go.Proofs.YtpokompplapkhaaGreatDoor
