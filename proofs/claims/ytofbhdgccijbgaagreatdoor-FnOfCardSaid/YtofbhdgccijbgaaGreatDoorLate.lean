/- What the shaken texts no longer hold. -/
import Derived.Test.YtofbhdgccijbgaaGreatDoorMI
import Derived.Test.YtofbhdgccijbgaaGreatDoorVTyN
import Derived.Test.YtofbhdgccijbgaaGreatDoorMapP
import Derived.Test.YtofbhdgccijbgaaGreatDoorMK
import Derived.Test.YtofbhdgccijbgaaGreatDoorVMapS
import Derived.Test.YtofbhdgccijbgaaGreatDoorVDraw2
namespace Go.Proofs.YtofbhdgccijbgaaGreatDoor
open Go.RowKit
set_option linter.unusedVariables false
set_option linter.unusedSimpArgs false
theorem nstep_nodup (u : Ty) {ls : List (List UInt8)} (h : ls.Nodup) : (nstep ls u).Nodup := by
  cases u with
  | name x =>
    simp only [nstep]
    split
    · exact h
    · rename_i hx
      rw [List.nodup_append]
      refine ⟨h, by simp, ?_⟩
      intro a ha b hb
      simp only [List.mem_singleton] at hb
      subst hb
      rintro rfl
      exact hx ha
  | _ => exact h
theorem fold_nodup : ∀ (l : List Ty) {ls : List (List UInt8)}, ls.Nodup → (l.foldl nstep ls).Nodup
  | [], _, h => h
  | u :: l, _, h => fold_nodup l (nstep_nodup u h)
theorem names_nodup (n : NT) (hn : n.ok3) : n.names.Nodup := by
  rw [← fnames_db n hn]
  exact fold_nodup _ (by simp)
/-- Named and nameless agree, where the free names are parameters. -/
theorem labsN_db : ∀ (v : V) (env : List (List UInt8 × NT)) (N : NT), EnvOk env → N.ok3 → (∀ s, (N.db (env.map (·.1))).has s → paramB s = true) → (∀ e ∈ env, e.2.ok3) → (∀ (k : Nat) (e : List UInt8 × NT) (r : List (List UInt8 × NT)), env.drop k = e :: r → ∀ s, (e.2.db (r.map (·.1))).has s → paramB s = true) →
    v.labsN env N = v.labs (envTy env) (N.db (env.map (·.1))) := by
  intro v
  induction v with
  | u =>
    intro env N he hN hp ho hq
    cases N with
    | name s =>
      simp only [NT.db]
      split
      · rfl
      · split <;> rfl
    | _ => rfl
  | el e =>
    intro env N he hN hp ho hq
    cases N with
    | name s =>
      simp only [V.labsN]
      cases hl : lookN s env with
      | none =>
        have h1 := (lookN_look env).1 hl
        have hs : paramB s = true := hp s (by
          simp only [NT.db]
          split
          · rfl
          · rw [h1]; rfl)
        simp only [NT.db]
        rw [if_pos hs]
        rfl
      | some q =>
        obtain ⟨L, r⟩ := q
        obtain ⟨k, hk, _⟩ := (lookN_look env).2 L r hl
        have hs := (lookN_ok he L r hl).2
        simp only [NT.db]
        rw [if_neg (by rw [hs]; simp), hk]
        rfl
    | _ => rfl
  | l v ih =>
    intro env N he hN hp ho hq
    cases N with
    | sum a b => exact ih env a he hN.1 (fun s h => hp s (.inl h)) ho hq
    | name s =>
      simp only [NT.db]
      split
      · rfl
      · split <;> rfl
    | _ => rfl
  | r v ih =>
    intro env N he hN hp ho hq
    cases N with
    | sum a b => exact ih env b he hN.2 (fun s h => hp s (.inr h)) ho hq
    | name s =>
      simp only [NT.db]
      split
      · rfl
      · split <;> rfl
    | _ => rfl
  | p v w ih ih2 =>
    intro env N he hN hp ho hq
    cases N with
    | prod a b =>
      simp only [V.labsN, NT.db, V.labs]
      rw [ih env a he hN.1 (fun s h => hp s (.inl h)) ho hq, ih2 env b he hN.2 (fun s h => hp s (.inr h)) ho hq]
    | name s =>
      simp only [NT.db]
      split
      · rfl
      · split <;> rfl
    | _ => rfl
  | f v ih =>
    intro env N he hN hp ho hq
    have loopcase : ∀ (rest : List (List UInt8 × NT)) (x : List UInt8) (a : NT), EnvOk rest → (NT.loop x a).ok3 → (∀ s, ((NT.loop x a).db (rest.map (·.1))).has s → paramB s = true) → (∀ e ∈ rest, e.2.ok3) → (∀ (k : Nat) (e : List UInt8 × NT) (r : List (List UInt8 × NT)), rest.drop k = e :: r → ∀ s, (e.2.db (r.map (·.1))).has s → paramB s = true) →
        v.labsN ((x, .loop x a) :: rest) a = v.labs (.loop (a.db (x :: rest.map (·.1))) :: envTy rest) (a.db (x :: rest.map (·.1))) := fun rest x a h1 h2 h3 h4 h5 => by
      refine ih ((x, .loop x a) :: rest) a ⟨⟨a, rfl⟩, h2.1.2, h1⟩ h2.2 h3 (fun e hm => ?_) (fun k e r hd => ?_)
      · rcases List.mem_cons.1 hm with rfl | hm
        · exact h2
        · exact h4 e hm
      · cases k with
        | zero => cases hd; exact h3
        | succ k => exact h5 k e r hd
    cases N with
    | loop x a => exact loopcase env x a he hN hp ho hq
    | name s =>
      simp only [V.labsN]
      cases hl : lookN s env with
      | none =>
        have h1 := (lookN_look env).1 hl
        simp only [NT.db]
        split
        · rfl
        · rw [h1]; rfl
      | some q =>
        obtain ⟨L, r⟩ := q
        obtain ⟨k, hk, hd, r', hr⟩ := (lookN_look env).2 L r hl
        subst hr
        have hs := (lookN_ok he L _ hl).2
        have heo := (lookN_ok he L _ hl).1
        obtain ⟨⟨a, ha⟩, hpn, her⟩ := heo
        have ha : L = .loop s a := ha
        subst ha
        have hmem : ∀ e ∈ (s, NT.loop s a) :: r', e ∈ env := fun e hm => by rw [← hd] at hm; exact List.mem_of_mem_drop hm
        simp only [NT.db]
        rw [if_neg (by rw [hs]; simp), hk]
        simp only [V.labs]
        rw [envTy_drop, hd]
        simp only [envTy, NT.db]
        refine loopcase r' s a her (ho _ (hmem _ (List.mem_cons_self ..))) (hq k _ r' hd) (fun e hm => ho e (hmem e (List.mem_cons_of_mem _ hm))) (fun j e r hj => hq (k + 1 + j) e r ?_)
        rw [Nat.add_assoc, ← List.drop_drop, hd, Nat.add_comm 1 j]
        exact hj
    | _ => rfl
/-- Places have names of the type. -/
theorem labs_has : ∀ (v : V) (env : List Ty) (t : Ty), ∀ p ∈ v.labs env t, t.has p.1 ∨ ∃ T ∈ env, T.has p.1 := by
  intro v
  induction v with
  | u => intro env t p hp; cases t <;> cases hp
  | el s =>
    intro env t p hp
    cases t with
    | name x => simp only [V.labs, List.mem_singleton] at hp; subst hp; exact .inl rfl
    | _ => cases hp
  | l v ih =>
    intro env t p hp
    cases t with
    | sum a b => exact (ih _ _ p hp).imp .inl id
    | _ => cases hp
  | r v ih =>
    intro env t p hp
    cases t with
    | sum a b => exact (ih _ _ p hp).imp .inr id
    | _ => cases hp
  | p v w ih ih2 =>
    intro env t p hp
    cases t with
    | prod a b =>
      simp only [V.labs, List.mem_append] at hp
      rcases hp with hp | hp
      · exact (ih _ _ p hp).imp .inl id
      · exact (ih2 _ _ p hp).imp .inr id
    | _ => cases hp
  | f v ih =>
    intro env t p hp
    cases t with
    | loop a =>
      rcases ih _ _ p hp with h | ⟨T, hT, h⟩
      · exact .inl h
      · rcases List.mem_cons.1 hT with rfl | hT
        · exact .inl h
        · exact .inr ⟨T, hT, h⟩
    | bound k =>
      simp only [V.labs] at hp
      split at hp
      · rename_i a rest he
        have hm : ∀ T ∈ (Ty.loop a :: rest), T ∈ env := fun T hT => by rw [← he] at hT; exact List.mem_of_mem_drop hT
        rcases ih _ _ p hp with h | ⟨T, hT, h⟩
        · exact .inr ⟨.loop a, hm _ (List.mem_cons_self ..), h⟩
        · exact .inr ⟨T, hm T hT, h⟩
      · cases hp
    | _ => cases hp
/-- Lists of places, name for name, are all places. -/
theorem sum_places : ∀ (names : List (List UInt8)) (L : List (List UInt8 × List UInt8)), names.Nodup → (∀ p ∈ L, p.1 ∈ names) → (names.map fun s => (L.filter fun p => decide (p.1 = s)).length).sum = L.length
  | [], L, _, h => by
    cases L with
    | nil => rfl
    | cons p L => exact absurd (h p (List.mem_cons_self ..)) (by simp)
  | s :: names, L, hn, h => by
    have hn' := List.nodup_cons.1 hn
    have h2 := sum_places names (L.filter fun p => !decide (p.1 = s)) hn'.2 (fun p hp => by
      obtain ⟨h1, h3⟩ := List.mem_filter.1 hp
      rcases List.mem_cons.1 (h p h1) with h4 | h4
      · simp [h4] at h3
      · exact h4)
    have h3 : (names.map fun s => (L.filter fun p => decide (p.1 = s)).length) = names.map fun s' => ((L.filter fun p => !decide (p.1 = s)).filter fun p => decide (p.1 = s')).length := by
      refine List.map_congr_left fun s' hs' => ?_
      rw [List.filter_filter]
      congr 1
      refine List.filter_congr fun p hp => ?_
      by_cases hp' : p.1 = s'
      · have : ¬ p.1 = s := fun h => hn'.1 (by rw [← h, hp']; exact hs')
        simp [hp', this]
        intro h
        exact this (hp'.trans h)
      · simp [hp']
    rw [List.map_cons, List.sum_cons, h3, h2]
    have : ∀ L : List (List UInt8 × List UInt8), (L.filter fun p => decide (p.1 = s)).length + (L.filter fun p => !decide (p.1 = s)).length = L.length := fun L => by
      induction L with
      | nil => rfl
      | cons p L ih =>
        by_cases hp : p.1 = s
        · simp [hp]; omega
        · simp [hp]; omega
    exact this L
/-- What TypeNames gives. -/
def TNPost (w : World) (o : Option NT) (e : Ending) (w' : World) : Prop :=
  Below w.heap.size w w' ∧ match o with
    | none => ∃ A c, e = .returned (.tuple #[.slice A 0 c, .bool false])
    | some v => ∃ g c, e = .returned (.tuple #[.slice (some ⟨g, 0, none⟩) v.names.length c, .bool true]) ∧ SOwn w' w.heap.size v.names g c
set_option maxHeartbeats 1000000 in
theorem TypeNames_any (s : ByteArray) (w : World) (hs : s.size ≤ 9223372036854775807) :
    Calls Tryz.prog 42 #[.string s] w (TNPost w (rdTy s.data.toList)) := by
  have hv := readType_rt s w hs
  have hn := fun v h => rdTy_some (l := s.data.toList) (n := v) h
  clear hs
  generalize rdTy s.data.toList = o at *
  cases o with
  | none =>
    clear hn
    go_enter Tryz.func42, Tryz.ntmps42
    go_wp2_with (go_at_call 85; refine hv.mono ?_; rintro e w1 ⟨hb1, rfl⟩)
    go_ret2
    exact ⟨hb1, _, _, rfl⟩
  | some n =>
    have HN : Hid (∀ (w : World) p, TyAt w (n.db []) p → Calls Tryz.prog 86 #[.pointer p] w (LPost w n.names)) := fun w p hp => by
      have h := names_any (n.db []) w p hp (by rw [NT.db_atoms]; have := (hn n rfl).2; omega)
      rw [names_fr n [] [] (hn n rfl).1 (by simp)] at h
      exact h
    clear hn
    go_enter Tryz.func42, Tryz.ntmps42
    go_wp2_with (first
      | (go_at_call 85; refine hv.mono ?_; rintro e w1 ⟨hb1, g, rfl, hp⟩; have HP := Lib.hid hp; have HB1 := Lib.hid hb1; clear hp hb1)
      | (go_at_call 86; refine (HN.out _ _ HP.out).mono ?_; rintro e w2 ⟨hb2, g2, c2, rfl, ho⟩; have HO := Lib.hid (ho.less HB1.out.size); have HB2 := Lib.hid (up_trans HB1.out hb2); clear hb2 ho))
    go_ret2
    exact ⟨HB2.out, _, _, rfl, HO.out⟩
theorem atN_db {l : List UInt8} {N : NT} (h : clTy l = some N) (x : V) (nm : List UInt8) : x.atN [] N nm = x.atE [] (N.db []) nm := by
  obtain ⟨_, ho, _, hp, _⟩ := clTy_some h
  unfold V.atN V.atE
  rw [labsN_db x [] N trivial (ok_ok3 ho) hp (fun e he => by cases he) (fun k e r hd => by simp at hd)]
  rfl
set_option maxHeartbeats 8000000 in
set_option maxRecDepth 100000 in
theorem specValueOf_any (s v nm : ByteArray) (w : World) (hs : s.size ≤ 9223372036854775807) (hv : v.size ≤ 9223372036854775807) :
    Calls Tryz.prog 19 #[.string s, .string v, .string nm] w (VLPost w (voB s.data.toList v.data.toList nm.data.toList)) := by
  have HIS := Lib.hid fun w1 => specValueIs_any s v 100 w1 hs hv
  have HP : Hid (∀ w1, Calls Tryz.prog 51 #[.string nm] w1 fun e w' => e = .returned (.bool (paramB nm.data.toList)) ∧ w1 = w') := fun w1 => l1Param_any nm w1
  have HNONE : Hid (∀ w' A c, Below w.heap.size w w' → VLPost w none (.returned (.tuple #[.slice A 0 c, .bool false])) w') := fun w' A c hb => ⟨hb, _, _, rfl⟩
  cases ho : valsOf s.data.toList v.data.toList 100 with
  | none =>
    have HC := Lib.hid (l1Closed_form s w hs)
    have HV := Lib.hid fun w1 => l2Value_form v w1 hv
    have hz : isB s.data.toList v.data.toList 100 = false := by unfold isB; rw [ho]; rfl
    rw [hz] at HIS
    have hq : voB s.data.toList v.data.toList nm.data.toList = none := by unfold voB; rw [ho]
    rw [hq]
    generalize VLPost w none = Q at *
    clear hs hv ho hz hq
    go_enter Tryz.func19, Tryz.ntmps19
    go_wp2_with (first
      | (go_at_call 46; (with_reducible refine HC.out.mono ?_); rintro e w1 ⟨hb1, x1, A1, m1, c1, b1, rfl⟩; have HB1 := Lib.hid (up_alloc hb1 (.cells #[.string x1, .slice A1 m1 c1] 55)); clear hb1)
      | (go_at_call 47; (with_reducible refine (HV.out _).mono ?_); rintro e w2 ⟨hb2, x2, A2, m2, c2, b2, rfl⟩; have HB2 := Lib.hid (up_alloc (up_trans HB1.out hb2) (.cells #[.string x2, .slice A2 m2 c2] 55)); clear hb2)
      | (go_at_call 15; (with_reducible refine (HIS.out _).mono ?_); rintro e w3 ⟨rfl, hb3⟩; have HB3 := Lib.hid (up_trans HB2.out hb3); clear hb3))
    exact HNONE.out _ _ _ (up_alloc HB3.out _)
  | some q =>
    obtain ⟨N, x⟩ := q
    obtain ⟨hc, hr, _, _, hty⟩ := valsOf_some ho
    have hok := rdVal_ok hr
    have hnd := rdVal_nodes hr
    obtain ⟨_, hNo, hNa, _⟩ := clTy_some hc
    have HC := Lib.hid (l1Closed_tree w hs hc)
    have HV := Lib.hid fun w1 => l2Value_tree (v := v) (x := x) w1 hv hr
    have hz : isB s.data.toList v.data.toList 100 = true := by unfold isB; rw [ho]; rfl
    rw [hz] at HIS
    cases hp : paramB nm.data.toList with
    | false =>
      rw [hp] at HP
      have hq : voB s.data.toList v.data.toList nm.data.toList = none := by unfold voB; rw [ho]; simp only; rw [if_neg (by rw [hp]; simp)]
      rw [hq]
      generalize VLPost w none = Q at *
      clear hs hv ho hz hq hc hr hty hok hnd hNo hNa hp
      go_enter Tryz.func19, Tryz.ntmps19
      go_wp2_with (first
        | (go_at_call 46; (with_reducible refine HC.out.mono ?_); rintro e w1 ⟨hb1, x1, A1, m1, c1, rfl, _⟩; have HB1 := Lib.hid (up_alloc hb1 (.cells #[.string x1, .slice A1 m1 c1] 55)); clear hb1)
        | (go_at_call 47; (with_reducible refine (HV.out _).mono ?_); rintro e w2 ⟨hb2, x2, A2, m2, c2, rfl, _⟩; have HB2 := Lib.hid (up_alloc (up_trans HB1.out hb2) (.cells #[.string x2, .slice A2 m2 c2] 55)); clear hb2)
        | (go_at_call 15; (with_reducible refine (HIS.out _).mono ?_); rintro e w3 ⟨rfl, hb3⟩; have HB3 := Lib.hid (up_trans HB2.out hb3); clear hb3)
        | (go_at_call 51; (with_reducible refine (HP.out _).mono ?_); rintro e w4 ⟨rfl, rfl⟩))
      exact HNONE.out _ _ _ (up_alloc HB3.out _)
    | true =>
      rw [hp] at HP
      have hq : voB s.data.toList v.data.toList nm.data.toList = some (x.atE [] (N.db []) nm.data.toList) := by unfold voB; rw [ho]; simp only; rw [if_pos hp]
      rw [hq]
      have HM : Hid (∀ w1 gb A vt vv, Below w.heap.size w w1 → w.heap.size ≤ gb → TAt w1 (fun _ => True) N.toTr vt → TAt w1 (fun _ => True) x.toTr vv → TBx w1 w.heap.size gb nm.data.toList 1 0 [] → Calls Tryz.prog 53 #[.pointer (some ⟨gb, 0, none⟩), vt, .slice A 0 0, vv] w1 fun e w' => (∃ y A n c, e = .returned (.agg #[.string y, .slice A n c])) ∧ TBx w' w.heap.size gb nm.data.toList 1 0 (x.atE [] (N.db []) nm.data.toList) ∧ Below w.heap.size w1 w') := fun w1 gb A vt vv hb hg h1 h2 h3 => by
        have := l2Turn_any _ x (Nat.le_refl _) N [] A 0 vt vv w1 _ w.heap.size gb nm.data.toList 1 0 [] h1 trivial h2.low (fun k hk => hk) h3 hb.size trivial (ok_ok3 hNo) (by simp; omega) hok (by rw [isOfN_top 100 x hc]; exact hty) hp (by omega) (by omega) (by simp; omega)
        refine this.mono ?_
        rintro e w' ⟨⟨y, A, n, c, he, _⟩, h4, h5⟩
        rw [List.nil_append, atN_db hc] at h4
        exact ⟨⟨y, A, n, c, he⟩, h4, h5.bl⟩
      have HQ : Hid (∀ w1 w' gb, Below w.heap.size w w1 → Below w.heap.size w1 w' → TBx w' w.heap.size gb nm.data.toList 1 0 (x.atE [] (N.db []) nm.data.toList) → ∃ g c, w'.cell? ⟨gb, 3, none⟩ = some (.slice (some ⟨g, 0, none⟩) (x.atE [] (N.db []) nm.data.toList).length c) ∧ gb < w'.heap.size ∧ VLPost w (some (x.atE [] (N.db []) nm.data.toList)) (.returned (.tuple #[.slice (some ⟨g, 0, none⟩) (x.atE [] (N.db []) nm.data.toList).length c, .bool true])) w') := fun w1 w' gb hb1 hb2 ⟨g, c, h1, h2, _⟩ => ⟨g, c, block_cell h1 3, lt_of_block h1, Below.trans hb1 hb2, g, c, rfl, h2⟩
      have HTB : Hid (∀ w1, Below w.heap.size w w1 → TBx (((w1.alloc (.cells #[] 9)).alloc (.cells #[.string nm, .int .i64 1, .int .i64 0, .slice (some ⟨w1.heap.size, 0, none⟩) 0 0] 68)).alloc (.cells #[] 161)) w.heap.size (w1.heap.size + 1) nm.data.toList 1 0 []) := fun w1 hb => ⟨w1.heap.size, 0, block_alloc (new2 w1 _ _) _, SOwn.up (own_nil w1 _ hb.size 9) (up_alloc (up1 _ _) _), by have := hb.size; omega⟩
      generalize x.atE [] (N.db []) nm.data.toList = out at *
      generalize VLPost w (some out) = Q at *
      clear hs hv ho hz hq hc hr hty hok hnd hNo hNa hp HNONE
      go_enter Tryz.func19, Tryz.ntmps19
      go_wp2_with (first
        | (go_at_call 46; (with_reducible refine HC.out.mono ?_); rintro e w1 ⟨hb1, x1, A1, m1, c1, rfl, ht1⟩; have HB1 := Lib.hid (up_alloc hb1 (.cells #[.string x1, .slice A1 m1 c1] 55)); have HT1 := Lib.hid (ht1.up (up1 w1 (.cells #[.string x1, .slice A1 m1 c1] 55))); have HK1 := Lib.hid (block_new w1 (.cells #[.string x1, .slice A1 m1 c1] 55)); clear hb1 ht1)
        | (go_at_call 47; (with_reducible refine (HV.out _).mono ?_); rintro e w2 ⟨hb2, x2, A2, m2, c2, rfl, hv2⟩; have HB2 := Lib.hid (up_alloc (up_trans HB1.out hb2) (.cells #[.string x2, .slice A2 m2 c2] 55)); have HT2 := Lib.hid ((HT1.out.up hb2).up (up1 w2 (.cells #[.string x2, .slice A2 m2 c2] 55))); have HX2 := Lib.hid (hv2.up (up1 w2 (.cells #[.string x2, .slice A2 m2 c2] 55))); have HK1' := Lib.hid (block_alloc (block_up hb2 HK1.out) (.cells #[.string x2, .slice A2 m2 c2] 55)); have HK2 := Lib.hid (block_new w2 (.cells #[.string x2, .slice A2 m2 c2] 55)); clear hb2 hv2)
        | (go_at_call 15; (with_reducible refine (HIS.out _).mono ?_); rintro e w3 ⟨rfl, hb3⟩; have HB3 := Lib.hid (up_trans HB2.out hb3); have HT3 := Lib.hid (HT2.out.up hb3); have HX3 := Lib.hid (HX2.out.up hb3); have e0 : w3.cell? ⟨w1.heap.size, 0, none⟩ = some (.string x1) := block_cell (block_up hb3 HK1'.out) 0; have e1 : w3.cell? ⟨w1.heap.size, 1, none⟩ = some (.slice A1 m1 c1) := block_cell (block_up hb3 HK1'.out) 1; have l1 := lt_of_block (block_up hb3 HK1'.out); have e2 : w3.cell? ⟨w2.heap.size, 0, none⟩ = some (.string x2) := block_cell (block_up hb3 HK2.out) 0; have e3 : w3.cell? ⟨w2.heap.size, 1, none⟩ = some (.slice A2 m2 c2) := block_cell (block_up hb3 HK2.out) 1; have l2 := lt_of_block (block_up hb3 HK2.out); have e2' : (((w3.alloc (.cells #[] 9)).alloc (.cells #[.string nm, .int .i64 1, .int .i64 0, .slice (some ⟨w3.heap.size, 0, none⟩) 0 0] 68)).alloc (.cells #[] 161)).cell? ⟨w2.heap.size, 0, none⟩ = some (.string x2) := cell_up (up_alloc (up_alloc (up1 _ _) _) _) e2; have e3' : (((w3.alloc (.cells #[] 9)).alloc (.cells #[.string nm, .int .i64 1, .int .i64 0, .slice (some ⟨w3.heap.size, 0, none⟩) 0 0] 68)).alloc (.cells #[] 161)).cell? ⟨w2.heap.size, 1, none⟩ = some (.slice A2 m2 c2) := cell_up (up_alloc (up_alloc (up1 _ _) _) _) e3; clear hb3)
        | (go_at_call 51; (with_reducible refine (HP.out _).mono ?_); rintro e w4 ⟨rfl, rfl⟩)
        | (go_at_call 53; (with_reducible refine (HM.out _ _ _ _ _ (up_alloc (up_alloc (up_alloc HB3.out _) _) _) (by have := HB3.out.size; omega) (HT3.out.up (up_alloc (up_alloc (up1 _ _) _) _)) (HX3.out.up (up_alloc (up_alloc (up1 _ _) _) _)) (HTB.out _ HB3.out)).mono ?_); rintro e w5 ⟨⟨y5, A5, n5, c5, rfl⟩, htb5, hb5⟩; obtain ⟨g6, c6, q6, l6, hq6⟩ := HQ.out _ _ _ (up_alloc (up_alloc (up_alloc HB3.out _) _) _) hb5 htb5; have HQ6 := Lib.hid hq6; clear htb5 hb5 hq6))
      exact HQ6.out
/-- What DrawValueOf gives. -/
def VOfPost (w : World) (e : Ending) (w' : World) : Prop := ∃ s v nm : ByteArray, s.size ≤ 100000 ∧ v.size ≤ 100000000000 ∧ nm.size ≤ 1000 ∧ e = .returned (.tuple #[.string s, .string v, .string nm]) ∧ Below w.heap.size w w'
set_option maxHeartbeats 2000000 in
theorem DrawValueOf_any (a : Option Addr) (n c : Nat) (w : World) (h : CodeRow w a n c) : Calls Tryz.prog 40 #[.slice a n c] w (VOfPost w) := by
  have HO := Lib.hid (l6Open_any a n c w h.1 h.2)
  have HT : Hid (∀ (w : World) (r : Nat) (B : Option Addr) (n c : Nat), RB w r B n c 0 → Calls Tryz.prog 83 #[.pointer (some ⟨r, 0, none⟩)] w fun e w' => ∃ s v : ByteArray, s.size ≤ 100000 ∧ v.size ≤ 100000000000 ∧ e = .returned (.tuple #[.string s, .string v]) ∧ RB w' r B n c (0 + 20000 + 5000000000) ∧ w.grownBy w' (some r)) := fun w r B n c h => l91Given_any r B n c 0 w h (by omega)
  have HN : Hid (∀ (w : World) (r : Nat) (B : Option Addr) (n c : Nat), RB w r B n c (0 + 20000 + 5000000000) → Calls Tryz.prog 84 #[.pointer (some ⟨r, 0, none⟩)] w (DPost w r B n c (0 + 20000 + 5000000000 + 1) 1000)) := fun w r B n c h => l91Name_any r B n c _ w h (by omega)
  clear h
  go_enter Tryz.func40, Tryz.ntmps40
  go_wp2_with (first
    | (go_at_call 82; refine HO.out.mono ?_; rintro e w1 ⟨r, B', n', c', rfl, hr, hb, hlt⟩; have HR := Lib.hid hr; have HB := Lib.hid hb; have HL := Lib.hid hlt; clear hr hb hlt)
    | (go_at_call 83; (with_reducible refine (HT.out _ _ _ _ _ HR.out).mono ?_); rintro e w2 ⟨s, v, hs, hv, rfl, hr, hg⟩; have HS := Lib.hid hs; have HV := Lib.hid hv; have HR2 := Lib.hid hr; have HB2 := Lib.hid (up_grown HB.out hg HL.out); clear hs hv hr hg)
    | (go_at_call 84; (with_reducible refine (HN.out _ _ _ _ _ HR2.out).mono ?_); rintro e w3 ⟨s2, hs2, rfl, _, hg⟩; have HS2 := Lib.hid hs2; have HB3 := Lib.hid (up_grown HB2.out hg HL.out); clear hs2 hg))
  refine bodyPost_ret (v := .tuple #[.string s, .string v, .string s2]) (by simp [results, Tryz.results40, go_sem]) rfl ?_
  exact ⟨s, v, s2, HS.out, HV.out, HS2.out, rfl, HB3.out⟩
end Go.Proofs.YtofbhdgccijbgaaGreatDoor
