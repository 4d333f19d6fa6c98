/- visit with its closures; DerivPlaces, names. -/
import Derived.Test.YtmghnibnokkjjaaDoorTy4
namespace Go.Proofs.YtmghnibnokkjjaaDoor
open Go.RowKit
set_option linter.unusedVariables false
set_option linter.unusedSimpArgs false

/-- All parts, in the text's order. -/
def Ty.pre : Ty → List Ty
  | .sum a b => .sum a b :: (a.pre ++ b.pre)
  | .prod a b => .prod a b :: (a.pre ++ b.pre)
  | .loop a => .loop a :: a.pre
  | t => [t]

set_option maxHeartbeats 4000000 in
set_option maxRecDepth 100000 in
theorem visit_DP {α : Type} (I : α → World → Prop) (step : α → Ty → α) (q1 : Addr) (q2 : Addr)
    (hK : ∀ (u : Ty) (p : Option Addr) (w : World) (acc : α), I acc w → TyAt w u p → Calls Tryd.prog 50 #[.pointer p, .pointer (some q1), .pointer (some q2)] w fun e w' => e = .returned (.tuple #[]) ∧ I (step acc u) w' ∧ Keeps 48 w w')
    (t : Ty) : ∀ (w : World) (p : Option Addr) (acc : α), I acc w → TyAt w t p →
      Calls Tryd.prog 49 #[.pointer p, .func (.func 50) #[] #[.pointer (some q1), .pointer (some q2)]] w fun e w' => e = .returned (.tuple #[]) ∧ I (t.pre.foldl step acc) w' ∧ Keeps 48 w w' := by
  have HK := Lib.hid hK
  clear hK
  induction t with
  | sum a b iha ihb =>
    intro w p acc hI hp
    have HP := Lib.hid hp
    have HI := Lib.hid hI
    obtain ⟨pa, pb, ⟨g, rfl, hb⟩, ha, hb'⟩ := hp
    obtain ⟨ga, rfl⟩ := ha.some_
    obtain ⟨gb, rfl⟩ := hb'.some_
    have HC : Hid (∀ w1, Keeps 48 w w1 → w1.cell? ⟨g, 3, none⟩ = some (.pointer (some ⟨ga, 0, none⟩)) ∧ w1.cell? ⟨g, 4, none⟩ = some (.pointer (some ⟨gb, 0, none⟩)) ∧ Hid (TyAt w1 a (some ⟨ga, 0, none⟩)) ∧ Hid (TyAt w1 b (some ⟨gb, 0, none⟩))) := fun w1 hk => ⟨block_cell (hk _ _ _ hb) 3, block_cell (hk _ _ _ hb) 4, ha.keep hk, hb'.keep hk⟩
    have H1 := Lib.hid iha
    have H2 := Lib.hid ihb
    simp only [Ty.pre, List.foldl_cons, List.foldl_append]
    clear iha ihb hb ha hb' hI
    go_enter Tryd.func49, Tryd.ntmps49
    go_wp2_with (first
      | (go_at_call 50; refine (HK.out _ _ _ _ HI.out HP.out).mono ?_; rintro e w1 ⟨rfl, hi1, hk1⟩; obtain ⟨c3, c4, ha1, _⟩ := HC.out w1 hk1; have HI1 := Lib.hid hi1; have HK1 := Lib.hid hk1; clear hi1 hk1)
      | (go_at_call 49; first
          | ((with_reducible refine (H2.out _ _ _ HI2.out hb2.out).mono ?_); rintro e w3 ⟨rfl, hi3, hk3⟩; have HI3 := Lib.hid hi3; have HK3 := Lib.hid (HK2.out.trans hk3); clear hi3 hk3)
          | ((with_reducible refine (H1.out _ _ _ HI1.out ha1.out).mono ?_); rintro e w2 ⟨rfl, hi2, hk2⟩; obtain ⟨d3, d4, _, hb2⟩ := HC.out w2 (HK1.out.trans hk2); have HI2 := Lib.hid hi2; have HK2 := Lib.hid (HK1.out.trans hk2); clear hi2 hk2)))
    go_end0
    exact ⟨rfl, HI3.out, HK3.out⟩
  | prod a b iha ihb =>
    intro w p acc hI hp
    have HP := Lib.hid hp
    have HI := Lib.hid hI
    obtain ⟨pa, pb, ⟨g, rfl, hb⟩, ha, hb'⟩ := hp
    obtain ⟨ga, rfl⟩ := ha.some_
    obtain ⟨gb, rfl⟩ := hb'.some_
    have HC : Hid (∀ w1, Keeps 48 w w1 → w1.cell? ⟨g, 3, none⟩ = some (.pointer (some ⟨ga, 0, none⟩)) ∧ w1.cell? ⟨g, 4, none⟩ = some (.pointer (some ⟨gb, 0, none⟩)) ∧ Hid (TyAt w1 a (some ⟨ga, 0, none⟩)) ∧ Hid (TyAt w1 b (some ⟨gb, 0, none⟩))) := fun w1 hk => ⟨block_cell (hk _ _ _ hb) 3, block_cell (hk _ _ _ hb) 4, ha.keep hk, hb'.keep hk⟩
    have H1 := Lib.hid iha
    have H2 := Lib.hid ihb
    simp only [Ty.pre, List.foldl_cons, List.foldl_append]
    clear iha ihb hb ha hb' hI
    go_enter Tryd.func49, Tryd.ntmps49
    go_wp2_with (first
      | (go_at_call 50; refine (HK.out _ _ _ _ HI.out HP.out).mono ?_; rintro e w1 ⟨rfl, hi1, hk1⟩; obtain ⟨c3, c4, ha1, _⟩ := HC.out w1 hk1; have HI1 := Lib.hid hi1; have HK1 := Lib.hid hk1; clear hi1 hk1)
      | (go_at_call 49; first
          | ((with_reducible refine (H2.out _ _ _ HI2.out hb2.out).mono ?_); rintro e w3 ⟨rfl, hi3, hk3⟩; have HI3 := Lib.hid hi3; have HK3 := Lib.hid (HK2.out.trans hk3); clear hi3 hk3)
          | ((with_reducible refine (H1.out _ _ _ HI1.out ha1.out).mono ?_); rintro e w2 ⟨rfl, hi2, hk2⟩; obtain ⟨d3, d4, _, hb2⟩ := HC.out w2 (HK1.out.trans hk2); have HI2 := Lib.hid hi2; have HK2 := Lib.hid (HK1.out.trans hk2); clear hi2 hk2)))
    go_end0
    exact ⟨rfl, HI3.out, HK3.out⟩
  | loop a iha =>
    intro w p acc hI hp
    have HP := Lib.hid hp
    have HI := Lib.hid hI
    obtain ⟨pa, ⟨g, rfl, hb⟩, ha⟩ := hp
    obtain ⟨ga, rfl⟩ := ha.some_
    have HC : Hid (∀ w1, Keeps 48 w w1 → w1.cell? ⟨g, 3, none⟩ = some (.pointer (some ⟨ga, 0, none⟩)) ∧ w1.cell? ⟨g, 4, none⟩ = some (.pointer none) ∧ Hid (TyAt w1 a (some ⟨ga, 0, none⟩))) := fun w1 hk => ⟨block_cell (hk _ _ _ hb) 3, block_cell (hk _ _ _ hb) 4, ha.keep hk⟩
    have H1 := Lib.hid iha
    rw [show (Ty.loop a).pre.foldl step acc = a.pre.foldl step (step acc (.loop a)) from rfl]
    clear iha hb ha hI
    go_enter Tryd.func49, Tryd.ntmps49
    go_wp2_with (first
      | (go_at_call 50; refine (HK.out _ _ _ _ HI.out HP.out).mono ?_; rintro e w1 ⟨rfl, hi1, hk1⟩; obtain ⟨c3, c4, ha1⟩ := HC.out w1 hk1; have HI1 := Lib.hid hi1; have HK1 := Lib.hid hk1; clear hi1 hk1)
      | (go_at_call 49; (with_reducible refine (H1.out _ _ _ HI1.out ha1.out).mono ?_); rintro e w2 ⟨rfl, hi2, hk2⟩; obtain ⟨d3, d4, ha2⟩ := HC.out w2 (HK1.out.trans hk2); have HI2 := Lib.hid hi2; have HK2 := Lib.hid (HK1.out.trans hk2); clear hi2 hk2))
    go_end0
    exact ⟨rfl, HI2.out, HK2.out⟩
  | _ =>
    intro w p acc hI hp
    have HP := Lib.hid hp
    have HI := Lib.hid hI
    obtain ⟨g, rfl, hb⟩ := hp
    have HC : Hid (∀ w1, Keeps 48 w w1 → w1.cell? ⟨g, 3, none⟩ = some (.pointer none) ∧ w1.cell? ⟨g, 4, none⟩ = some (.pointer none)) := fun w1 hk => ⟨block_cell (hk _ _ _ hb) 3, block_cell (hk _ _ _ hb) 4⟩
    clear hb hI
    go_enter Tryd.func49, Tryd.ntmps49
    go_wp2_with (go_at_call 50; refine (HK.out _ _ _ _ HI.out HP.out).mono ?_; rintro e w1 ⟨rfl, hi1, hk1⟩; obtain ⟨c3, c4⟩ := HC.out w1 hk1; have HI1 := Lib.hid hi1; have HK1 := Lib.hid hk1; clear hi1 hk1)
    go_end0
    exact ⟨rfl, HI1.out, HK1.out⟩

/-- How the count of a name goes on. -/
def cstep (nm : List UInt8) (n : Int) : Ty → Int
  | .name s => if s = nm then wrap64 (n + 1) else n
  | _ => n
/-- Where the count stands. -/
def CI (w0 : World) (b1 b2 : Nat) (nm : List UInt8) (n : Int) (w : World) : Prop :=
  Below w0.heap.size w0 w ∧ w.heap[b1]? = some (.cells #[.string (St nm)] 9 (0, 0)) ∧ w.heap[b2]? = some (.cells #[.int .i64 n] 3 (0, 0)) ∧ b1 ≠ b2 ∧ w0.heap.size ≤ b2

set_option maxHeartbeats 2000000 in
theorem places_clo (w0 : World) (b1 b2 : Nat) (nm : List UInt8) (u : Ty) (p : Option Addr) (w : World) (n : Int) (hi : CI w0 b1 b2 nm n w) (hp : TyAt w u p) :
    Calls Tryd.prog 50 #[.pointer p, .pointer (some ⟨b1, 0, none⟩), .pointer (some ⟨b2, 0, none⟩)] w fun e w' => e = .returned (.tuple #[]) ∧ CI w0 b1 b2 nm (cstep nm n u) w' ∧ Keeps 48 w w' := by
  have HI := Lib.hid hi
  obtain ⟨h1, h2, h3, h4, h5⟩ := hi
  have d1 : w.cell? ⟨b1, 0, none⟩ = some (.string (St nm)) := block_cell h2 0
  have d2 : w.cell? ⟨b2, 0, none⟩ = some (.int .i64 n) := block_cell h3 0
  have d3 := block_free h3 0
  have l2 := lt_of_block h3
  have hstay : ∀ m, CI w0 b1 b2 nm n (w.drewN m) ∧ Keeps 48 w (w.drewN m) := fun m => ⟨⟨up_trans h1 (up_drewN _ _), h2, h3, h4, h5⟩, .up (up_drewN _ _)⟩
  have HS := Lib.hid hstay
  cases u with
  | name s =>
    obtain ⟨g, rfl, hb⟩ := hp
    have c0 : w.cell? ⟨g, 0, none⟩ = some (.int .u8 110) := block_cell hb 0
    have c1 : w.cell? ⟨g, 1, none⟩ = some (.string (St s)) := block_cell hb 1
    by_cases hs : s = nm
    · have q : (s == nm) = true := by rw [hs]; simp
      have HN : Hid (∀ m, CI w0 b1 b2 nm (cstep nm n (.name s)) ((w.drewN m).setCell ⟨b2, 0, none⟩ (.int .i64 (wrap64 (n + 1)))) ∧ Keeps 48 w ((w.drewN m).setCell ⟨b2, 0, none⟩ (.int .i64 (wrap64 (n + 1))))) := fun m => by
        have h3' : (w.drewN m).heap[b2]? = some (.cells #[.int .i64 n] 3 (0, 0)) := h3
        have hc : cstep nm n (.name s) = wrap64 (n + 1) := by simp only [cstep]; rw [if_pos hs]
        rw [hc]
        refine ⟨⟨set0 (up_trans h1 (up_drewN _ _)) h5, (Below.heap_setCell _ _ _ _ h4).trans h2, one_setCell h3', h4, h5⟩, ?_⟩
        exact (Keeps.up (up_drewN w m)).trans (Keeps.set_ (w := w.drewN m) (a := ⟨b2, 0, none⟩) h3' (by decide) _)
      clear h1 h2 h3 h4 h5 hb hstay hs
      go_enter Tryd.func50, Tryd.ntmps50
      go_wp2
      go_quiet (fail)
      go_wp2
      go_end0
      exact ⟨rfl, HN.out _⟩
    · have q : (s == nm) = false := St_ne hs
      have hc : cstep nm n (.name s) = n := by simp only [cstep]; rw [if_neg hs]
      rw [hc]
      clear h1 h2 h3 h4 h5 hb hstay hs hc
      go_enter Tryd.func50, Tryd.ntmps50
      go_wp2
      go_quiet (fail)
      go_wp2
      go_end0
      exact ⟨rfl, HS.out _⟩
  | _ => 
    have hp' : ∃ g sg nm up pa pb, p = some ⟨g, 0, none⟩ ∧ (∃ s2 : Int, sg = s2 ∧ (s2 == 110) = false) ∧ w.heap[g]? = some (.cells #[.int .u8 sg, .string (St nm), .int .i64 up, .pointer pa, .pointer pb] 48 (0, 0)) := by
      first
        | (obtain ⟨g, rfl, hb⟩ := hp; exact ⟨g, _, _, _, _, _, rfl, ⟨_, rfl, rfl⟩, hb⟩)
        | (obtain ⟨pa, ⟨g, rfl, hb⟩, ha⟩ := hp; exact ⟨g, _, _, _, _, _, rfl, ⟨_, rfl, rfl⟩, hb⟩)
        | (obtain ⟨pa, pb, ⟨g, rfl, hb⟩, ha, hb'⟩ := hp; exact ⟨g, _, _, _, _, _, rfl, ⟨_, rfl, rfl⟩, hb⟩)
    obtain ⟨g, sg, nm', up, pa, pb, rfl, ⟨_, rfl, hsg⟩, hb⟩ := hp'
    have hsg2 : decide (sg = 110) = false := by simpa using hsg
    have c0 := block_cell hb 0
    clear h1 h2 h3 h4 h5 hb hstay
    go_enter Tryd.func50, Tryd.ntmps50
    go_wp2
    go_quiet (fail)
    go_wp2
    go_end0
    exact ⟨rfl, HS.out _⟩

theorem cstep_fold (nm : List UInt8) : ∀ (l : List Ty) (n : Nat), n + l.length ≤ 1000000 → l.foldl (cstep nm) (n : Int) = ((n + (l.filter (· == .name nm)).length : Nat) : Int)
  | [], n, _ => by simp
  | t :: l, n, h => by
    simp only [List.length_cons] at h
    rw [List.foldl_cons]
    by_cases ht : t = .name nm
    · subst ht
      have : cstep nm n (.name nm) = ((n + 1 : Nat) : Int) := by simp only [cstep, if_true]; rw [w64 (by omega) (by omega)]; rfl
      rw [this, cstep_fold nm l (n + 1) (by omega)]
      simp
      omega
    · have : cstep nm n t = n := by
        unfold cstep
        split
        · rename_i s
          rw [if_neg (fun he => ht (by rw [he]))]
        · rfl
      rw [this, cstep_fold nm l n (by omega)]
      have : (t == .name nm) = false := by simpa using ht
      simp [this]
theorem pre_len : ∀ t : Ty, t.pre.length ≤ t.atoms
  | .sum a b => by have := pre_len a; have := pre_len b; simp only [Ty.pre, Ty.atoms, List.length_cons, List.length_append]; omega
  | .prod a b => by have := pre_len a; have := pre_len b; simp only [Ty.pre, Ty.atoms, List.length_cons, List.length_append]; omega
  | .loop a => by have := pre_len a; simp only [Ty.pre, Ty.atoms, List.length_cons]; omega
  | .zero => by simp [Ty.pre, Ty.atoms]
  | .one => by simp [Ty.pre, Ty.atoms]
  | .name _ => by simp [Ty.pre, Ty.atoms]
  | .bound _ => by simp [Ty.pre, Ty.atoms]

/-- How often a name stands free. -/
def NT.uses (nm : List UInt8) : NT → Nat
  | .name s => if s = nm then 1 else 0
  | .sum a b => a.uses nm + b.uses nm
  | .prod a b => a.uses nm + b.uses nm
  | .loop s a => if s = nm then 0 else a.uses nm
  | _ => 0
theorem param_ne_loop {a b : List UInt8} (ha : paramB a = true) (hb : loopB b = true) : b ≠ a := by
  rintro rfl
  cases b with
  | nil => simp [namedB] at ha
  | cons c r =>
    simp [namedB] at ha hb
    obtain ⟨⟨h1, _⟩, _⟩ := ha
    obtain ⟨⟨h2, _⟩, _⟩ := hb
    subst h2
    revert h1
    decide
theorem uses_db (nm : List UInt8) (hp : paramB nm = true) : ∀ (n : NT) (env : List (List UInt8)), n.ok → ((n.db env).pre.filter (· == .name nm)).length = n.uses nm
  | .zero, _, _ => by simp [NT.db, Ty.pre, NT.uses]
  | .one, _, _ => by simp [NT.db, Ty.pre, NT.uses]
  | .name s, env, h => by
    simp only [NT.db, NT.uses]
    by_cases hs : paramB s = true
    · rw [if_pos hs]
      by_cases hn : s = nm
      · subst hn; simp [Ty.pre]
      · rw [if_neg hn]; simp [Ty.pre, hn]
    · rw [if_neg hs]
      have hl : loopB s = true := by rcases h with h | h; exact absurd h hs; exact h
      have hne : s ≠ nm := param_ne_loop hp hl
      rw [if_neg hne]
      cases look s env with
      | none => simp [Ty.pre, hne]
      | some k => simp [Ty.pre]
  | .sum a b, env, h => by
    have h1 := uses_db nm hp a env h.1
    have h2 := uses_db nm hp b env h.2
    simp only [NT.db, NT.uses, Ty.pre, List.filter_cons, List.filter_append]
    simp [h1, h2]
  | .prod a b, env, h => by
    have h1 := uses_db nm hp a env h.1
    have h2 := uses_db nm hp b env h.2
    simp only [NT.db, NT.uses, Ty.pre, List.filter_cons, List.filter_append]
    simp [h1, h2]
  | .loop s a, env, h => by
    have h1 := uses_db nm hp a (s :: env) h.2
    simp only [NT.db, NT.uses, Ty.pre, List.filter_cons]
    rw [if_neg (param_ne_loop hp h.1)]
    simp [h1]

/-- What DerivPlaces gives. -/
def placesOf (o : Option NT) (nm : List UInt8) : Int := match o with
  | none => -1
  | some n => if paramB nm = true then n.uses nm else -1

set_option maxHeartbeats 2000000 in
theorem DerivPlaces_any (s : ByteArray) (nm : List UInt8) (w : World) (hs : s.size ≤ 9223372036854775807) :
    Calls Tryd.prog 20 #[.string s, .string (St nm)] w fun e w' => e = .returned (.int .i64 (placesOf (rdTy s.data.toList) nm)) ∧ Below w.heap.size w w' := by
  have hv := fun w => readType_rt s w hs
  have hn := fun v h => rdTy_some (l := s.data.toList) (n := v) h
  have HQ : Hid (∀ w, Calls Tryd.prog 48 #[.string (St nm)] w fun e w' => e = .returned (.bool (paramB nm)) ∧ Below w.heap.size w w') := fun w => isParameter_all nm w
  clear hs
  generalize rdTy s.data.toList = o at *
  cases o with
  | none =>
    have HV := Lib.hid hv
    clear hn hv
    show Calls _ _ _ _ (fun e w' => e = .returned (.int .i64 (-1)) ∧ _)
    go_enter Tryd.func20, Tryd.ntmps20
    go_wp2_with (go_at_call 43; refine (HV.out _).mono ?_; rintro e w1 ⟨hb1, rfl⟩; have HB1 := Lib.hid hb1; clear hb1)
    go_ret
    exact ⟨rfl, up_trans (up1 w _) HB1.out⟩
  | some n =>
    cases hp : paramB nm with
    | false =>
      rw [hp] at HQ
      have HV := Lib.hid hv
      rw [show placesOf (some n) nm = -1 from by simp only [placesOf]; rw [if_neg (by rw [hp]; simp)]]
      clear hn hv hp
      go_enter Tryd.func20, Tryd.ntmps20
      go_wp2_with (first
        | (go_at_call 43; refine (HV.out _).mono ?_; rintro e w1 ⟨hb1, g, rfl, hp⟩; have d1 : w1.cell? ⟨w.heap.size, 0, none⟩ = some (.string (St nm)) := block_cell (block_up hb1 (block_new w _)) 0; have HB1 := Lib.hid hb1; clear hb1 hp)
        | (go_at_call 48; refine (HQ.out _).mono ?_; rintro e w2 ⟨rfl, hb2⟩; have HB2 := Lib.hid (up_trans HB1.out hb2); clear hb2))
      go_ret
      exact ⟨rfl, up_trans (up1 w _) HB2.out⟩
    | true =>
      rw [hp] at HQ
      have HV := Lib.hid hv
      have hfold : (n.db []).pre.foldl (cstep nm) 0 = ((n.uses nm : Nat) : Int) := by
        have h1 := cstep_fold nm (n.db []).pre 0 (by have := pre_len (n.db []); rw [NT.db_atoms] at this; have := (hn n rfl).2; omega)
        rw [uses_db nm hp n [] (hn n rfl).1] at h1
        simpa using h1
      have HVI : Hid (∀ (w0 : World) (b1 b2 : Nat) (w : World) (p : Option Addr), CI w0 b1 b2 nm 0 w → TyAt w (n.db []) p → Calls Tryd.prog 49 #[.pointer p, .func (.func 50) #[] #[.pointer (some ⟨b1, 0, none⟩), .pointer (some ⟨b2, 0, none⟩)]] w fun e w' => e = .returned (.tuple #[]) ∧ CI w0 b1 b2 nm (n.uses nm : Nat) w' ∧ Keeps 48 w w') := fun w0 b1 b2 w p hI hT => by
        have := visit_DP (CI w0 b1 b2 nm) (cstep nm) ⟨b1, 0, none⟩ ⟨b2, 0, none⟩ (fun u p w acc hi hp => places_clo w0 b1 b2 nm u p w acc hi hp) (n.db []) w p 0 hI hT
        rw [hfold] at this
        exact this
      rw [show placesOf (some n) nm = (n.uses nm : Nat) from by simp only [placesOf]; rw [if_pos hp]]
      clear hn hv hp hfold
      generalize n.uses nm = k at *
      go_enter Tryd.func20, Tryd.ntmps20
      go_wp2_with (first
        | (go_at_call 43; refine (HV.out _).mono ?_; rintro e w1 ⟨hb1, g, rfl, hp⟩; have G1 := Lib.hid (block_up hb1 (block_new w (.cells #[.string (St nm)] 9))); have d1 : w1.cell? ⟨w.heap.size, 0, none⟩ = some (.string (St nm)) := block_cell G1.out 0; have HB1 := Lib.hid hb1; have HP := Lib.hid hp; clear hb1 hp)
        | (go_at_call 48; refine (HQ.out _).mono ?_; rintro e w2 ⟨rfl, hb2⟩; have l2 : w.heap.size < w2.heap.size := lt_of_block (block_up hb2 G1.out); have G2 : Hid (CI w w.heap.size w2.heap.size nm 0 (w2.alloc (.cells #[.int .i64 0] 3))) := ⟨up_alloc (up_trans (up1 w _) (up_trans HB1.out hb2)) _, block_alloc (block_up hb2 G1.out) _, block_new w2 _, by omega, by omega⟩; have HP2 : Hid (TyAt (w2.alloc (.cells #[.int .i64 0] 3)) (n.db []) (some ⟨g, 0, none⟩)) := (TyAt.up hb2 HP.out).up (up1 _ _); clear hb2)
        | (go_at_call 49; refine (HVI.out w w.heap.size w2.heap.size _ _ G2.out HP2.out).mono ?_; rintro e w3 ⟨rfl, hi3, _⟩; have d3 : w3.cell? ⟨w2.heap.size, 0, none⟩ = some (.int .i64 k) := block_cell hi3.2.2.1 0; have HB3 := Lib.hid hi3.1; clear hi3))
      go_ret
      exact ⟨rfl, HB3.out⟩

end Go.Proofs.YtmghnibnokkjjaaDoor
