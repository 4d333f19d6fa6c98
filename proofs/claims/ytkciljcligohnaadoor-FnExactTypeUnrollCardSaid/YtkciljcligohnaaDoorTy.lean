/- The program's types: typeOf, atoms, readType. -/
import Derived.Test.YtkciljcligohnaaDoorTyP
import Derived.Test.YtkciljcligohnaaDoorMark
import Derived.Deep.QuietTactic
import Derived.BigQuiet
namespace Go.Proofs.YtkciljcligohnaaDoor
open Go.RowKit
set_option linter.unusedVariables false
set_option linter.unusedSimpArgs false

def TyPost (w : World) (o : Option Ty) (e : Ending) (w' : World) : Prop :=
  Below w.heap.size w w' ∧ match o with
    | some t => ∃ p, e = .returned (.pointer p) ∧ TyAt w' t p
    | none => e = .returned (.pointer none)
theorem TyPost.none_ {w w' : World} (h : Below w.heap.size w w') : TyPost w none (.returned (.pointer none)) w' := ⟨h, rfl⟩
theorem TyPost.some_ {w w' : World} {t : Ty} {p : Option Addr} (h : Below w.heap.size w w') (hp : TyAt w' t p) : TyPost w (some t) (.returned (.pointer p)) w' := ⟨h, p, rfl, hp⟩
theorem TyN_new (w : World) (sg : Int) (nm : List UInt8) (up : Int) (pa pb : Option Addr) : TyN (w.alloc (.cells #[.int .u8 sg, .string (St nm), .int .i64 up, .pointer pa, .pointer pb] 56)) (some ⟨w.heap.size, 0, none⟩) sg nm up pa pb := ⟨_, rfl, block_new w _⟩

theorem quiet_drew {P : Program} {f : FuncId} {args : Array Value} {w : World} {v : Value} (n : Nat)
    (h : Calls P f args (w.drewN n) fun e w' => e = .returned v ∧ ∃ m, w' = (w.drewN n).drewN m) : Calls P f args (w.drewN n) fun e w' => e = .returned v ∧ ∃ m, w' = w.drewN m :=
  h.mono fun _ _ ⟨he, m, hm⟩ => ⟨he, n + m, by rw [hm, World.drewN_drewN]⟩

set_option maxHeartbeats 1000000 in
theorem tyAtoms_any (t : Ty) : ∀ (w : World) (p : Option Addr), TyAt w t p → t.atoms ≤ 1000000000 →
    Calls Tryd.prog 63 #[.pointer p] w fun e w' => e = .returned (.int .i64 t.atoms) ∧ ∃ m, w' = w.drewN m := by
  induction t with
  | sum a b iha ihb =>
    rintro w p ⟨pa, pb, ⟨g, rfl, hb⟩, ha, hb'⟩ hn
    have c0 : w.cell? ⟨g, 0, none⟩ = some (.int .u8 43) := block_cell hb 0
    have c2 : w.cell? ⟨g, 3, none⟩ = some (.pointer pa) := block_cell hb 3
    have c3 : w.cell? ⟨g, 4, none⟩ = some (.pointer pb) := block_cell hb 4
    simp only [Ty.atoms] at hn ⊢
    have h1 := Lib.hid fun n => quiet_drew n (iha (w.drewN n) pa (ha.up (up_drewN w n)) (by omega))
    have h2 := Lib.hid fun n => quiet_drew n (ihb (w.drewN n) pb (hb'.up (up_drewN w n)) (by omega))
    obtain ⟨ga, rfl⟩ := ha.some_
    obtain ⟨gb, rfl⟩ := hb'.some_
    clear hb ha hb' iha ihb
    generalize a.atoms = x at *
    generalize b.atoms = y at *
    go_enter Tryd.func63, Tryd.ntmps63
    go_wp2
    go_quiet ((go_at_call 63; first | (with_reducible exact h1.out _) | (with_reducible exact h2.out _)))
    go_wp2
    go_ret
    exact ⟨congrArg (fun b => Ending.returned (.int .i64 b)) (by simp), _, rfl⟩
  | prod a b iha ihb =>
    rintro w p ⟨pa, pb, ⟨g, rfl, hb⟩, ha, hb'⟩ hn
    have c0 : w.cell? ⟨g, 0, none⟩ = some (.int .u8 42) := block_cell hb 0
    have c2 : w.cell? ⟨g, 3, none⟩ = some (.pointer pa) := block_cell hb 3
    have c3 : w.cell? ⟨g, 4, none⟩ = some (.pointer pb) := block_cell hb 4
    simp only [Ty.atoms] at hn ⊢
    have h1 := Lib.hid fun n => quiet_drew n (iha (w.drewN n) pa (ha.up (up_drewN w n)) (by omega))
    have h2 := Lib.hid fun n => quiet_drew n (ihb (w.drewN n) pb (hb'.up (up_drewN w n)) (by omega))
    obtain ⟨ga, rfl⟩ := ha.some_
    obtain ⟨gb, rfl⟩ := hb'.some_
    clear hb ha hb' iha ihb
    generalize a.atoms = x at *
    generalize b.atoms = y at *
    go_enter Tryd.func63, Tryd.ntmps63
    go_wp2
    go_quiet ((go_at_call 63; first | (with_reducible exact h1.out _) | (with_reducible exact h2.out _)))
    go_wp2
    go_ret
    exact ⟨congrArg (fun b => Ending.returned (.int .i64 b)) (by simp), _, rfl⟩
  | loop a iha =>
    rintro w p ⟨pa, ⟨g, rfl, hb⟩, ha⟩ hn
    have c0 : w.cell? ⟨g, 0, none⟩ = some (.int .u8 114) := block_cell hb 0
    have c2 : w.cell? ⟨g, 3, none⟩ = some (.pointer pa) := block_cell hb 3
    simp only [Ty.atoms] at hn ⊢
    have h1 := iha w pa ha (by omega)
    obtain ⟨ga, rfl⟩ := ha.some_
    clear hb ha iha
    generalize a.atoms = x at *
    go_enter Tryd.func63, Tryd.ntmps63
    go_wp2_with (go_at_call 63; refine h1.mono ?_; rintro e w' ⟨rfl, m, rfl⟩)
    go_ret
    exact ⟨congrArg (fun b => Ending.returned (.int .i64 b)) (by simp), _, rfl⟩
  | _ =>
    rintro w p ⟨g, rfl, hb⟩ hn
    have c0 := block_cell hb 0
    clear hb
    go_enter Tryd.func63, Tryd.ntmps63
    go_wp2_with fail
    go_ret
    exact ⟨rfl, 0, rfl⟩

theorem isNamed_all (s L : ByteArray) (w : World) :
    Calls Tryd.prog 86 #[.string s, .string L] w fun e w' => e = .returned (.bool (namedB L.data.toList s.data.toList)) ∧ Below w.heap.size w w' := by
  by_cases h : s.size ≤ 9223372036854775807
  · exact isNamed_any s L w h
  · have h3 : ¬ s.size ≤ 3 := by omega
    have h1 : 1 ≤ s.size := by omega
    have hb : namedB L.data.toList s.data.toList = false := by
      have hsz := size_list s
      cases hl : s.data.toList with
      | nil => rfl
      | cons c r =>
        rw [hl] at hsz
        simp at hsz
        have : ¬ r.length ≤ 2 := by omega
        simp [namedB, this]
    rw [hb]
    clear h hb
    go_enter Tryd.func86, Tryd.ntmps86
    go_wp2_with fail
    go_ret
    exact ⟨rfl, Below.refl _ _⟩
theorem isParameter_all (s : List UInt8) (w : World) :
    Calls Tryd.prog 52 #[.string (St s)] w fun e w' => e = .returned (.bool (paramB s)) ∧ Below w.heap.size w w' := by
  have hc : Calls Tryd.prog 86 #[.string (St s), .string ⟨#[120, 121, 122]⟩] w fun e w' => e = .returned (.bool (paramB s)) ∧ Below w.heap.size w w' := isNamed_all (St s) ⟨#[120, 121, 122]⟩ w
  generalize paramB s = b at *
  go_enter Tryd.func52, Tryd.ntmps52
  go_wp2_with (go_at_call 86; refine hc.mono ?_; rintro e w' ⟨rfl, hb⟩)
  go_ret
  exact ⟨rfl, hb⟩
theorem isLoopName_all (s : List UInt8) (w : World) :
    Calls Tryd.prog 53 #[.string (St s)] w fun e w' => e = .returned (.bool (loopB s)) ∧ Below w.heap.size w w' := by
  have hc : Calls Tryd.prog 86 #[.string (St s), .string ⟨#[116]⟩] w fun e w' => e = .returned (.bool (loopB s)) ∧ Below w.heap.size w w' := isNamed_all (St s) ⟨#[116]⟩ w
  generalize loopB s = b at *
  go_enter Tryd.func53, Tryd.ntmps53
  go_wp2_with (go_at_call 86; refine hc.mono ?_; rintro e w' ⟨rfl, hb⟩)
  go_ret
  exact ⟨rfl, hb⟩

/-- What typeOf does with an expression. -/
def TO (t : Tr) : Prop := ∀ (env : List (List UInt8)) (p : Option Addr) (A : Option Addr) (c : Nat) (w : World), EAt w (fun _ => True) t p → SCells w A env.reverse → env.length + t.size ≤ 100000 →
  Calls Tryd.prog 81 #[.pointer p, .slice A env.length c] w (TyPost w ((tyOf t).map fun n => n.db env))

set_option maxHeartbeats 2000000 in
set_option maxRecDepth 100000 in
theorem typeOf_digit (s : List UInt8) (hs : s = [48] ∨ s = [49]) (ps : List Tr) : TO (.mk s ps) := by
  intro env p A c w hp hA hn
  obtain ⟨g, B, c', rfl, e0, _, _⟩ := hp.parts
  clear hp hA
  rcases hs with rfl | rfl
  · rw [tyOf_zero]
    go_enter Tryd.func81, Tryd.ntmps81
    go_wp2_with fail
    go_ret
    exact .some_ (up1 w _) (TyN_new w _ _ _ _ _)
  · rw [tyOf_one]
    go_enter Tryd.func81, Tryd.ntmps81
    go_wp2_with fail
    go_ret
    exact .some_ (up1 w _) (TyN_new w _ _ _ _ _)

set_option maxHeartbeats 2000000 in
set_option maxRecDepth 100000 in
theorem typeOf_param (s : List UInt8) (hs : paramB s = true) (ps : List Tr) : TO (.mk s ps) := by
  intro env p A c w hp hA hn
  obtain ⟨g, B, c', rfl, e0, _, _⟩ := hp.parts
  rw [tyOf_name (.inl hs)]
  have hv : (Option.map (fun n => NT.db n env) (some (NT.name s))) = some (.name s) := by simp [NT.db, hs]
  rw [hv]
  obtain ⟨h1, h2⟩ := name_ne (.inl hs)
  have k1 := St_ne h1
  have k2 := St_ne h2
  have HC : Hid (∀ w, Calls Tryd.prog 52 #[.string (St s)] w fun e w' => e = .returned (.bool true) ∧ Below w.heap.size w w') := fun w => by
    have := isParameter_all s w
    rw [hs] at this
    exact this
  have HE : Hid (∀ w1, Below w.heap.size w w1 → w1.cell? ⟨g, 0, none⟩ = some (.string (St s))) := fun w1 hb => cell_up hb e0
  clear hp hA hs hv h1 h2
  go_enter Tryd.func81, Tryd.ntmps81
  go_wp2_with (go_at_call 52; refine (HC.out _).mono ?_; rintro e w1 ⟨rfl, hb1⟩; have e1 := HE.out w1 hb1; have HB1 := Lib.hid hb1; clear hb1)
  go_ret
  exact .some_ (up_alloc HB1.out _) (TyN_new w1 _ _ _ _ _)

theorem w64 {n : Int} (h : -9223372036854775808 ≤ n) (h2 : n ≤ 9223372036854775807) : wrap64 n = n := by unfold wrap64; omega

theorem look_drop {s e : List UInt8} {env r : List (List UInt8)} {k : Nat} (hk : env.drop k = e :: r) (h : look s env = (look s (env.drop k)).map (· + k)) :
    (e = s → look s env = some k) ∧ (e ≠ s → look s env = (look s (env.drop (k + 1))).map (· + (k + 1))) := by
  have hr : env.drop (k + 1) = r := by rw [← List.drop_drop, hk]; rfl
  constructor
  · intro he
    rw [h, hk, look, if_pos he]
    simp
  · intro he
    rw [h, hk, look, if_neg he, hr]
    cases look s r with
    | none => rfl
    | some j => simp; omega

set_option maxHeartbeats 4000000 in
set_option maxRecDepth 100000 in
theorem typeOf_loopName (s : List UInt8) (hs : loopB s = true) (hq : paramB s = false) (ps : List Tr) : TO (.mk s ps) := by
  intro env p A c w hp hA hn
  obtain ⟨g, B, c', rfl, e0, _, _⟩ := hp.parts
  rw [tyOf_name (.inr hs)]
  obtain ⟨h1, h2⟩ := name_ne (.inr hs)
  have k1 := St_ne h1
  have k2 := St_ne h2
  have HC : Hid (∀ w, Calls Tryd.prog 52 #[.string (St s)] w fun e w' => e = .returned (.bool false) ∧ Below w.heap.size w w') := fun w => by
    have := isParameter_all s w
    rw [hq] at this
    exact this
  have HL : Hid (∀ w, Calls Tryd.prog 53 #[.string (St s)] w fun e w' => e = .returned (.bool true) ∧ Below w.heap.size w w') := fun w => by
    have := isLoopName_all s w
    rw [hs] at this
    exact this
  have HE : Hid (∀ w1, Below w.heap.size w w1 → w1.cell? ⟨g, 0, none⟩ = some (.string (St s)) ∧ SCells w1 A env.reverse) := fun w1 hb => ⟨cell_up hb e0, hA.up hb⟩
  have HV : Hid (∀ o, look s env = o → Option.map (fun n => NT.db n env) (some (NT.name s)) = some (match o with | some k => Ty.bound k | none => Ty.name s)) := fun o ho => by
    simp only [Option.map_some, NT.db]
    rw [if_neg (by rw [hq]; simp), ho]
    cases o <;> rfl
  generalize Option.map (fun n => NT.db n env) (some (NT.name s)) = res at *
  have HN : Hid (env.length ≤ 100000) := by show env.length ≤ 100000; omega
  clear hp hA hs h1 h2 hq hn
  have HLN : Hid (∃ n, n = env.length) := ⟨_, rfl⟩
  obtain ⟨n, hnl⟩ := HLN.out
  rw [← hnl]
  have HNL := Lib.hid hnl
  clear HLN hnl
  go_enter Tryd.func81, Tryd.ntmps81
  go_wp2_with (first
    | (go_at_call 52; refine (HC.out _).mono ?_; rintro e w1 ⟨rfl, hb1⟩; obtain ⟨e1, _⟩ := HE.out w1 hb1; have HB1 := Lib.hid hb1; clear hb1)
    | (go_at_call 53; refine (HL.out _).mono ?_; rintro e w2 ⟨rfl, hb2⟩; obtain ⟨e2, _⟩ := HE.out w2 (up_trans HB1.out hb2); have HB2 := Lib.hid (up_trans HB1.out hb2); clear hb2))
  go_loopg [5] n (fun m v5 wr => v5 = .int .i64 ((m : Int) - 1) ∧ Hid (∃ k, m + k = n ∧ look s env = (look s (env.drop k)).map (· + k)) ∧ Hid (Below w.heap.size w wr))
  case atStart => exact ⟨by rw [w64 (by omega) (by have := HN.out; have := HNL.out; omega)], ⟨0, by omega, by simp⟩, HB2⟩
  case round =>
    obtain ⟨rfl, HK, HB⟩ := hrel
    obtain ⟨k, hk, hlook⟩ := HK.out
    obtain ⟨e3, hcells⟩ := HE.out wr HB.out
    have hlen := HNL.out
    clear e1 e2
    cases gk with
    | zero =>
      have hv := HV.out none (by rw [hlook, List.drop_of_length_le (by omega)]; rfl)
      subst hv
      clear hk hlook hcells HK hlen HV
      go_wp2
      go_ret
      exact .some_ (up_alloc HB.out _) (TyN_new wr _ _ _ _ _)
    | succ m =>
      have hi : (((m + 1 : Nat) : Int) - 1) = (m : Int) := by omega
      rw [hi]
      have hkl : k < env.length := by omega
      have hdrop : env.drop k = env[k] :: env.drop (k + 1) := List.drop_eq_getElem_cons hkl
      have hld := look_drop hdrop hlook
      have hge : env.reverse[m]? = some env[k] := by
        rw [List.getElem?_reverse (by omega), List.getElem?_eq_getElem (by omega)]
        congr 2
        omega
      rcases hcells with hcells | ⟨ga, oa, rfl, hcells⟩
      · rw [hcells] at hge; cases hge
      have d1 := hcells m _ hge
      have hmn : m < n := by omega
      have hmn2 : (m : Int) < (n : Int) := by omega
      generalize hek : env[k] = y at *
      by_cases hys : y = s
      · have hv := HV.out (some k) (hld.1 hys)
        have q1 : (y == s) = true := by rw [hys]; simp
        subst hv
        have hup : wrap64 (wrap64 ((n : Int) - 1) - (m : Int)) = (k : Int) := by
          have := HN.out
          rw [w64 (n := (n : Int) - 1) (by omega) (by omega), w64 (by omega) (by omega)]
          omega
        have HUP := Lib.hid hup
        clear hk hlook hcells HK hlen HV hi hkl hdrop hld hge hek hup hys
        go_wp2
        go_region
        go_wp2
        go_ret
        refine .some_ (up_alloc (up_drew HB.out) _) ?_
        show TyN _ _ _ _ _ _ _
        rw [← HUP.out]
        exact ⟨_, rfl, block_new wr _⟩
      · have q1 : (y == s) = false := St_ne hys
        have HK2 : Hid (∃ k, m + k = n ∧ look s env = (look s (env.drop k)).map (· + k)) := ⟨k + 1, by omega, hld.2 hys⟩
        clear hk hlook hcells HK hlen HV hi hkl hdrop hld hge hek hys
        go_wp2
        go_region
        go_wp2
        go_roundg m
        case measure => omega
        case rel => exact ⟨by rw [w64 (by omega) (by have := HN.out; have := HNL.out; omega)], HK2, up_drew HB.out⟩

end Go.Proofs.YtkciljcligohnaaDoor
