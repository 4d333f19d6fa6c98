/- DerivTwice and DerivNone of both. -/
import Derived.Test.YtcfecmlfcjgdbaaGreatDoorSDrv
import Derived.Test.YtcfecmlfcjgdbaaGreatDoorMK
import Derived.Test.YtcfecmlfcjgdbaaGreatDoorWFnCanon
namespace Go.Proofs.YtcfecmlfcjgdbaaGreatDoor
open Go.RowKit
set_option linter.unusedVariables false
set_option linter.unusedSimpArgs false

theorem derO_some {t : Ty} {x : List UInt8} {d : Ty} (h : derO t x = some d) : Der t x (some d) := by
  unfold derO at h
  split at h
  · rename_i he
    have := Classical.choose_spec he
    rw [h] at this
    exact this
  · cases h
theorem derivOf_some {l x c : List UInt8} (h : derivOf (rdTy l) x = some c) :
    ∃ n d, rdTy l = some n ∧ paramB x = true ∧ Der (n.db []) x (some d) ∧ d.told = some c ∧ (∃ m, rdTy c = some m ∧ m.ok ∧ m.db [] = d) ∧ c.length ≤ 8000 := by
  unfold derivOf at h
  split at h
  · rename_i hp
    cases hr : rdTy l with
    | none => rw [hr] at h; cases h
    | some n =>
      rw [hr] at h
      have h : (derO (n.db []) x).bind Ty.told = some c := h
      obtain ⟨hok, hat⟩ := rdTy_some hr
      cases hd : derO (n.db []) x with
      | none => rw [hd] at h; cases h
      | some d =>
        rw [hd] at h
        have h : d.told = some c := h
        have hD : Der (n.db []) x (some d) := derO_some hd
        have hsc := hD.scoped (db_scoped n []) d rfl
        have hnm : ∀ s, d.has s → nmOk s := fun s hs => db_ok n [] s (ok_ok3 hok) (hD.names d s rfl hs)
        obtain ⟨m0, h3, hdb⟩ := named d hsc hnm (by have := hD.atoms d rfl; omega)
        have ht : (m0.db []).told = some c := by rw [hdb]; exact h
        obtain ⟨m, h1, h2, h4, _⟩ := told_db h3 ht
        exact ⟨n, d, rfl, hp, hD, h, ⟨m, h1, h2, h4.trans hdb⟩, told_len h3 ht⟩
  · cases h
/-- What DerivTwice and DerivNone give. -/
noncomputable def twiceOf (l x y : List UInt8) : Option (List UInt8) := (derivOf (rdTy l) x).bind fun d => derivOf (rdTy d) y
noncomputable def noneOf (l x : List UInt8) : Bool := match derivOf (rdTy l) x with
  | none => false
  | some c => emptyOf (rdTy c)

set_option maxHeartbeats 4000000 in
set_option maxRecDepth 100000 in
theorem DerivTwice_any (s a b : ByteArray) (B : Nat) (w : World) (hs : s.size ≤ 9223372036854775807) (htab : TabB B w) (hB : B ≤ w.heap.size) :
    Calls Tryz.prog 12 #[.string s, .string a, .string b] w fun e w' => e = .returned (.tuple #[.string (St ((twiceOf s.data.toList a.data.toList b.data.toList).getD [])), .bool (twiceOf s.data.toList a.data.toList b.data.toList).isSome]) ∧ Below w.heap.size w w' := by
  have H1 : Hid (∀ w1, Below w.heap.size w w1 → Calls Tryz.prog 16 #[.string s, .string a] w1 fun e w' => e = .returned (.tuple #[.string (St ((derivOf (rdTy s.data.toList) a.data.toList).getD [])), .bool (derivOf (rdTy s.data.toList) a.data.toList).isSome]) ∧ Below w1.heap.size w1 w') := fun w1 hw => DerivOf_any s a B w1 hs (htab.below (hw.mono hB)) (by have := hw.size; omega)
  have H2 : Hid (∀ c w1, c.length ≤ 8000 → Below w.heap.size w w1 → Calls Tryz.prog 16 #[.string (St c), .string b] w1 fun e w' => e = .returned (.tuple #[.string (St ((derivOf (rdTy c) b.data.toList).getD [])), .bool (derivOf (rdTy c) b.data.toList).isSome]) ∧ Below w1.heap.size w1 w') := fun c w1 hc hw => DerivOf_any (St c) b B w1 (by show c.length ≤ _; omega) (htab.below (hw.mono hB)) (by have := hw.size; omega)
  have hlen := fun c => derivOf_some (l := s.data.toList) (x := a.data.toList) (c := c)
  unfold twiceOf
  generalize derivOf (rdTy s.data.toList) a.data.toList = o at *
  clear hs htab hB
  cases o with
  | none =>
    replace H1 : Hid (∀ w1, Below w.heap.size w w1 → Calls Tryz.prog 16 #[.string s, .string a] w1 fun e w' => e = .returned (.tuple #[.string (St []), .bool false]) ∧ Below w1.heap.size w1 w') := H1
    show Calls _ _ _ _ (fun e w' => e = .returned (.tuple #[.string (St []), .bool false]) ∧ _)
    clear H2 hlen
    go_enter Tryz.func12, Tryz.ntmps12
    go_wp2_with (go_at_call 16; (with_reducible refine (H1.out _ (Below.refl _ _)).mono ?_); rintro e w1 ⟨rfl, hb1⟩; have HB1 := Lib.hid hb1; clear hb1)
    go_ret2
    exact ⟨rfl, HB1.out⟩
  | some c =>
    obtain ⟨_, _, _, _, _, _, _, hl⟩ := hlen c rfl
    replace H1 : Hid (∀ w1, Below w.heap.size w w1 → Calls Tryz.prog 16 #[.string s, .string a] w1 fun e w' => e = .returned (.tuple #[.string (St c), .bool true]) ∧ Below w1.heap.size w1 w') := H1
    have H3 : Hid (∀ w1, Below w.heap.size w w1 → Calls Tryz.prog 16 #[.string (St c), .string b] w1 fun e w' => e = .returned (.tuple #[.string (St ((derivOf (rdTy c) b.data.toList).getD [])), .bool (derivOf (rdTy c) b.data.toList).isSome]) ∧ Below w1.heap.size w1 w') := fun w1 hw => H2.out c w1 hl hw
    clear H2 hlen hl
    show Calls _ _ _ _ (fun e w' => e = .returned (.tuple #[.string (St ((derivOf (rdTy c) b.data.toList).getD [])), .bool (derivOf (rdTy c) b.data.toList).isSome]) ∧ _)
    generalize (derivOf (rdTy c) b.data.toList).getD [] = tx at *
    generalize (derivOf (rdTy c) b.data.toList).isSome = ok at *
    go_enter Tryz.func12, Tryz.ntmps12
    go_wp2_with (go_at_call 16; first
      | (have HB1' := HB1.out; clear HB1'; (with_reducible refine (H3.out _ HB1.out).mono ?_); rintro e w2 ⟨rfl, hb2⟩; have HB2 := Lib.hid (up_trans HB1.out hb2); clear hb2)
      | ((with_reducible refine (H1.out _ (Below.refl _ _)).mono ?_); rintro e w1 ⟨rfl, hb1⟩; have HB1 := Lib.hid hb1; clear hb1))
    go_ret2
    exact ⟨rfl, HB2.out⟩

set_option maxHeartbeats 4000000 in
set_option maxRecDepth 100000 in
theorem DerivNone_any (s a : ByteArray) (B : Nat) (w : World) (hs : s.size ≤ 9223372036854775807) (htab : TabB B w) (hB : B ≤ w.heap.size) :
    Calls Tryz.prog 10 #[.string s, .string a] w fun e w' => e = .returned (.bool (noneOf s.data.toList a.data.toList)) ∧ Below w.heap.size w w' := by
  have H1 : Hid (∀ w1, Below w.heap.size w w1 → Calls Tryz.prog 16 #[.string s, .string a] w1 fun e w' => e = .returned (.tuple #[.string (St ((derivOf (rdTy s.data.toList) a.data.toList).getD [])), .bool (derivOf (rdTy s.data.toList) a.data.toList).isSome]) ∧ Below w1.heap.size w1 w') := fun w1 hw => DerivOf_any s a B w1 hs (htab.below (hw.mono hB)) (by have := hw.size; omega)
  have H2 : Hid (∀ c w1, c.length ≤ 8000 → Below w.heap.size w w1 → Calls Tryz.prog 14 #[.string (St c)] w1 fun e w' => e = .returned (.bool (emptyOf (rdTy c))) ∧ Below w1.heap.size w1 w') := fun c w1 hc hw => TypeEmpty_any (St c) w1 (by show c.length ≤ _; omega)
  have hlen := fun c => derivOf_some (l := s.data.toList) (x := a.data.toList) (c := c)
  unfold noneOf
  generalize derivOf (rdTy s.data.toList) a.data.toList = o at *
  clear hs htab hB
  cases o with
  | none =>
    replace H1 : Hid (∀ w1, Below w.heap.size w w1 → Calls Tryz.prog 16 #[.string s, .string a] w1 fun e w' => e = .returned (.tuple #[.string (St []), .bool false]) ∧ Below w1.heap.size w1 w') := H1
    show Calls _ _ _ _ (fun e w' => e = .returned (.bool false) ∧ _)
    clear H2 hlen
    go_enter Tryz.func10, Tryz.ntmps10
    go_wp2_with (go_at_call 16; (with_reducible refine (H1.out _ (Below.refl _ _)).mono ?_); rintro e w1 ⟨rfl, hb1⟩; have HB1 := Lib.hid hb1; clear hb1)
    go_ret
    exact ⟨rfl, HB1.out⟩
  | some c =>
    obtain ⟨_, _, _, _, _, _, _, hl⟩ := hlen c rfl
    replace H1 : Hid (∀ w1, Below w.heap.size w w1 → Calls Tryz.prog 16 #[.string s, .string a] w1 fun e w' => e = .returned (.tuple #[.string (St c), .bool true]) ∧ Below w1.heap.size w1 w') := H1
    have H3 : Hid (∀ w1, Below w.heap.size w w1 → Calls Tryz.prog 14 #[.string (St c)] w1 fun e w' => e = .returned (.bool (emptyOf (rdTy c))) ∧ Below w1.heap.size w1 w') := fun w1 hw => H2.out c w1 hl hw
    clear H2 hlen hl
    show Calls _ _ _ _ (fun e w' => e = .returned (.bool (emptyOf (rdTy c))) ∧ _)
    generalize emptyOf (rdTy c) = ok at *
    go_enter Tryz.func10, Tryz.ntmps10
    go_wp2_with (first
      | (go_at_call 16; (with_reducible refine (H1.out _ (Below.refl _ _)).mono ?_); rintro e w1 ⟨rfl, hb1⟩; have HB1 := Lib.hid hb1; clear hb1)
      | (go_at_call 14; (with_reducible refine (H3.out _ HB1.out).mono ?_); rintro e w2 ⟨rfl, hb2⟩; have HB2 := Lib.hid (up_trans HB1.out hb2); clear hb2))
    go_ret
    exact ⟨rfl, HB2.out⟩

set_option maxHeartbeats 4000000 in
set_option maxRecDepth 100000 in
theorem specDerivTwice_any (s a b : ByteArray) (w : World) (hs : s.size ≤ 9223372036854775807) :
    Calls Tryz.prog 13 #[.string s, .string a, .string b] w fun e w' => e = .returned (.tuple #[.string (St ((twiceOf s.data.toList a.data.toList b.data.toList).getD [])), .bool (twiceOf s.data.toList a.data.toList b.data.toList).isSome]) ∧ Below w.heap.size w w' := by
  have H1 : Hid (∀ w1, Below w.heap.size w w1 → Calls Tryz.prog 17 #[.string s, .string a] w1 fun e w' => e = .returned (.tuple #[.string (St ((derivOf (rdTy s.data.toList) a.data.toList).getD [])), .bool (derivOf (rdTy s.data.toList) a.data.toList).isSome]) ∧ Below w1.heap.size w1 w') := fun w1 hw => specDerivOf_any s a w1 hs
  have H2 : Hid (∀ c w1, c.length ≤ 8000 → Below w.heap.size w w1 → Calls Tryz.prog 17 #[.string (St c), .string b] w1 fun e w' => e = .returned (.tuple #[.string (St ((derivOf (rdTy c) b.data.toList).getD [])), .bool (derivOf (rdTy c) b.data.toList).isSome]) ∧ Below w1.heap.size w1 w') := fun c w1 hc hw => specDerivOf_any (St c) b w1 (by show c.length ≤ _; omega)
  have hlen := fun c => derivOf_some (l := s.data.toList) (x := a.data.toList) (c := c)
  unfold twiceOf
  generalize derivOf (rdTy s.data.toList) a.data.toList = o at *
  clear hs
  cases o with
  | none =>
    replace H1 : Hid (∀ w1, Below w.heap.size w w1 → Calls Tryz.prog 17 #[.string s, .string a] w1 fun e w' => e = .returned (.tuple #[.string (St []), .bool false]) ∧ Below w1.heap.size w1 w') := H1
    show Calls _ _ _ _ (fun e w' => e = .returned (.tuple #[.string (St []), .bool false]) ∧ _)
    clear H2 hlen
    go_enter Tryz.func13, Tryz.ntmps13
    go_wp2_with (go_at_call 17; (with_reducible refine (H1.out _ (Below.refl _ _)).mono ?_); rintro e w1 ⟨rfl, hb1⟩; have HB1 := Lib.hid hb1; clear hb1)
    go_ret2
    exact ⟨rfl, HB1.out⟩
  | some c =>
    obtain ⟨_, _, _, _, _, _, _, hl⟩ := hlen c rfl
    replace H1 : Hid (∀ w1, Below w.heap.size w w1 → Calls Tryz.prog 17 #[.string s, .string a] w1 fun e w' => e = .returned (.tuple #[.string (St c), .bool true]) ∧ Below w1.heap.size w1 w') := H1
    have H3 : Hid (∀ w1, Below w.heap.size w w1 → Calls Tryz.prog 17 #[.string (St c), .string b] w1 fun e w' => e = .returned (.tuple #[.string (St ((derivOf (rdTy c) b.data.toList).getD [])), .bool (derivOf (rdTy c) b.data.toList).isSome]) ∧ Below w1.heap.size w1 w') := fun w1 hw => H2.out c w1 hl hw
    clear H2 hlen hl
    show Calls _ _ _ _ (fun e w' => e = .returned (.tuple #[.string (St ((derivOf (rdTy c) b.data.toList).getD [])), .bool (derivOf (rdTy c) b.data.toList).isSome]) ∧ _)
    generalize (derivOf (rdTy c) b.data.toList).getD [] = tx at *
    generalize (derivOf (rdTy c) b.data.toList).isSome = ok at *
    go_enter Tryz.func13, Tryz.ntmps13
    go_wp2_with (go_at_call 17; first
      | (have HB1' := HB1.out; clear HB1'; (with_reducible refine (H3.out _ HB1.out).mono ?_); rintro e w2 ⟨rfl, hb2⟩; have HB2 := Lib.hid (up_trans HB1.out hb2); clear hb2)
      | ((with_reducible refine (H1.out _ (Below.refl _ _)).mono ?_); rintro e w1 ⟨rfl, hb1⟩; have HB1 := Lib.hid hb1; clear hb1))
    go_ret2
    exact ⟨rfl, HB2.out⟩

set_option maxHeartbeats 4000000 in
set_option maxRecDepth 100000 in
theorem specDerivNone_any (s a : ByteArray) (w : World) (hs : s.size ≤ 9223372036854775807) :
    Calls Tryz.prog 9 #[.string s, .string a] w fun e w' => e = .returned (.bool (noneOf s.data.toList a.data.toList)) ∧ Below w.heap.size w w' := by
  have H1 : Hid (∀ w1, Below w.heap.size w w1 → Calls Tryz.prog 17 #[.string s, .string a] w1 fun e w' => e = .returned (.tuple #[.string (St ((derivOf (rdTy s.data.toList) a.data.toList).getD [])), .bool (derivOf (rdTy s.data.toList) a.data.toList).isSome]) ∧ Below w1.heap.size w1 w') := fun w1 hw => specDerivOf_any s a w1 hs
  have H2 : Hid (∀ c w1, c.length ≤ 8000 → Below w.heap.size w w1 → Calls Tryz.prog 33 #[.string (St c)] w1 fun e w' => e = .returned (.bool (emptyOf (rdTy c))) ∧ Below w1.heap.size w1 w') := fun c w1 hc hw => specTypeEmpty_any (St c) w1 (by show c.length ≤ _; omega)
  have hlen := fun c => derivOf_some (l := s.data.toList) (x := a.data.toList) (c := c)
  unfold noneOf
  generalize derivOf (rdTy s.data.toList) a.data.toList = o at *
  clear hs
  cases o with
  | none =>
    replace H1 : Hid (∀ w1, Below w.heap.size w w1 → Calls Tryz.prog 17 #[.string s, .string a] w1 fun e w' => e = .returned (.tuple #[.string (St []), .bool false]) ∧ Below w1.heap.size w1 w') := H1
    show Calls _ _ _ _ (fun e w' => e = .returned (.bool false) ∧ _)
    clear H2 hlen
    go_enter Tryz.func9, Tryz.ntmps9
    go_wp2_with (go_at_call 17; (with_reducible refine (H1.out _ (Below.refl _ _)).mono ?_); rintro e w1 ⟨rfl, hb1⟩; have HB1 := Lib.hid hb1; clear hb1)
    go_ret
    exact ⟨rfl, HB1.out⟩
  | some c =>
    obtain ⟨_, _, _, _, _, _, _, hl⟩ := hlen c rfl
    replace H1 : Hid (∀ w1, Below w.heap.size w w1 → Calls Tryz.prog 17 #[.string s, .string a] w1 fun e w' => e = .returned (.tuple #[.string (St c), .bool true]) ∧ Below w1.heap.size w1 w') := H1
    have H3 : Hid (∀ w1, Below w.heap.size w w1 → Calls Tryz.prog 33 #[.string (St c)] w1 fun e w' => e = .returned (.bool (emptyOf (rdTy c))) ∧ Below w1.heap.size w1 w') := fun w1 hw => H2.out c w1 hl hw
    clear H2 hlen hl
    show Calls _ _ _ _ (fun e w' => e = .returned (.bool (emptyOf (rdTy c))) ∧ _)
    generalize emptyOf (rdTy c) = ok at *
    go_enter Tryz.func9, Tryz.ntmps9
    go_wp2_with (first
      | (go_at_call 17; (with_reducible refine (H1.out _ (Below.refl _ _)).mono ?_); rintro e w1 ⟨rfl, hb1⟩; have HB1 := Lib.hid hb1; clear hb1)
      | (go_at_call 33; (with_reducible refine (H3.out _ HB1.out).mono ?_); rintro e w2 ⟨rfl, hb2⟩; have HB2 := Lib.hid (up_trans HB1.out hb2); clear hb2))
    go_ret
    exact ⟨rfl, HB2.out⟩

end Go.Proofs.YtcfecmlfcjgdbaaGreatDoor
