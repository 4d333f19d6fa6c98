/- The program's ValueMap. -/
import Derived.Test.YtpokompplapkhaaGreatDoorMI
import Derived.Test.YtpokompplapkhaaGreatDoorMapE
import Derived.Test.YtpokompplapkhaaGreatDoorTxI
import Derived.Test.YtpokompplapkhaaGreatDoorMF
import Derived.Test.YtpokompplapkhaaGreatDoorME
namespace Go.Proofs.YtpokompplapkhaaGreatDoor
open Go.RowKit
set_option linter.unusedVariables false
set_option linter.unusedSimpArgs false

/-- What ValueMap gives. -/
def vmV (l v nm : List UInt8) (a b : Int) : Option V := match valsOf l v 100 with
  | some (N, x) => if paramB nm = true ∧ 0 ≤ a ∧ a ≤ 99 ∧ 0 ≤ b ∧ b ≤ 99 then some (x.turn (mapF nm a.toNat b.toNat) [] (N.db [])) else none
  | none => none
def vmB (l v nm : List UInt8) (a b : Int) : Option (List UInt8) := (vmV l v nm a b).map fun x => x.toTr.txt
def TMPost (w : World) (o : Option (List UInt8)) (e : Ending) (w' : World) : Prop :=
  e = .returned (.tuple #[.string (St (o.getD [])), .bool o.isSome]) ∧ Below w.heap.size w w'
/-- The closure's variables. -/
def MI (w0 : World) (ba bb : Nat) (a b : Int) (w : World) : Prop := Below w0.heap.size w0 w ∧ w.heap[ba]? = some (.cells #[.int .i64 a] 3 (0, 0)) ∧ w.heap[bb]? = some (.cells #[.int .i64 b] 3 (0, 0))
theorem MI.up {w0 w w' : World} {ba bb : Nat} {a b : Int} (h : MI w0 ba bb a b w) (hb : Below w.heap.size w w') : MI w0 ba bb a b w' := ⟨up_trans h.1 hb, block_up hb h.2.1, block_up hb h.2.2⟩
set_option maxHeartbeats 4000000 in
set_option maxRecDepth 100000 in
theorem valueMap_clo (B : Nat) (w0 : World) (hT : TabB B w0) (hB : B ≤ w0.heap.size) (ba bb a b : Nat) (ha : a ≤ 99) (hb : b ≤ 99) (s : List UInt8) (hs : elemB s = true) (w : World) (hi : MI w0 ba bb a b w) :
    Calls Tryz.prog 87 #[.string (St s), .pointer (some ⟨ba, 0, none⟩), .pointer (some ⟨bb, 0, none⟩)] w fun e w' => e = .returned (.string (St (elT ((a * elN s + b) % 100)))) ∧ MI w0 ba bb a b w' ∧ Kp w w' := by
  have c0 : w.cell? ⟨ba, 0, none⟩ = some (.int .i64 a) := block_cell hi.2.1 0
  have c1 : w.cell? ⟨bb, 0, none⟩ = some (.int .i64 b) := block_cell hi.2.2 0
  have l0 := lt_of_block hi.2.1
  have l1 := lt_of_block hi.2.2
  have HU : Hid (∀ w1, Below w.heap.size w w1 → w1.cell? ⟨ba, 0, none⟩ = some (.int .i64 a) ∧ w1.cell? ⟨bb, 0, none⟩ = some (.int .i64 b)) := fun w1 h => ⟨block_cell (hi.up h).2.1 0, block_cell (hi.up h).2.2 0⟩
  have HQ : Hid (∀ w1, Below w.heap.size w w1 → MI w0 ba bb a b w1 ∧ Kp w w1) := fun w1 h => ⟨hi.up h, .up h⟩
  obtain ⟨r, hsr, hr1, hr2, hat, hle, hnum⟩ := elem_nums hs
  have h5 : (St s).extract 1 (St s).size = St r := extract_tail (s := St s) (b := 101) (by simpa using hsr)
  have h6 : 1 ≤ (St s).size := by rw [hsr]; show 1 ≤ (101 :: r).length; simp
  have HA : Hid (∀ w1, Calls Tryz.prog 88 #[.string ((St s).extract 1 (St s).size)] w1 fun e w' => e = .returned (.tuple #[.int .i64 (elN s), .nilIface]) ∧ Below w1.heap.size w1 w') := fun w1 => by
    rw [h5]
    refine (Tryz.strconv_Atoi (St r) (elN s) (by show r.length ≤ 18; omega) hat w1).mono ?_
    rintro e w' ⟨h1, t, T, rfl⟩
    exact ⟨h1, Lib.bytesWorld_below _ _ _⟩
  generalize hk : elN s = k at *
  have hak : a * k ≤ 99 * 99 := Nat.mul_le_mul ha hle
  have hm1 : IntKind.i64.wrap ((a : Int) * (k : Int)) = ((a * k : Nat) : Int) := by
    rw [IntKind.wrap_i64, ← Int.natCast_mul]; omega
  have hm2 : IntKind.i64.wrap (((a * k : Nat) : Int) + (b : Int)) = ((a * k + b : Nat) : Int) := by rw [IntKind.wrap_i64]; omega
  have hm4 : Int.tmod ((a * k + b : Nat) : Int) 100 = (((a * k + b) % 100 : Nat) : Int) := by
    rw [Int.tmod_eq_emod_of_nonneg (by omega)]; omega
  have hm5 : (IntKind.i64.wrap ((a : Int) * (k : Int) + (b : Int))).tmod 100 = (((a * k + b) % 100 : Nat) : Int) := by
    rw [← Int.natCast_mul, hm2, hm4]
  have HI : Hid (∀ w1, Below w.heap.size w w1 → Calls Tryz.prog 89 #[.int .i64 ((wrap64 ((a : Int) * (k : Int) + (b : Int))).tmod 100)] w1 fun e w' => e = .returned (.string (St (decL ((a * k + b) % 100)))) ∧ Below w1.heap.size w1 w') := fun w1 h => by
    have hw64 : ∀ z : Int, wrap64 z = IntKind.i64.wrap z := fun z => by rw [IntKind.wrap_i64]; unfold wrap64; omega
    rw [hw64, hm5]
    exact itoa_any _ B (by omega) w1 (hT.below ((up_trans hi.1 h).mono hB))
  have hdl : (decL ((a * k + b) % 100)).length ≤ 2 := decL_len 1 _ (by have := Nat.mod_lt (a * k + b) (show 0 < 100 by decide); omega)
  have hsz7 : ¬ 9223372036854775807 < 1 + (decL ((a * k + b) % 100)).length := by omega
  have hcat : (⟨#[101]⟩ : ByteArray) ++ St (decL ((a * k + b) % 100)) = St (elT ((a * k + b) % 100)) := St_of (by simp [elT])
  rw [← hcat]
  clear hi hs hT hB ha hb hsr hr1 hr2 hat hle hnum h5 hk hak hm2 hm4 hm5 hdl hcat
  generalize decL ((a * k + b) % 100) = dl at *
  generalize St s = sB at *
  go_enter Tryz.func87, Tryz.ntmps87
  go_wp2_with (first
    | (go_at_call 88; (with_reducible refine (HA.out _).mono ?_); rintro e w1 ⟨rfl, hb1⟩; have HB1 := Lib.hid hb1; obtain ⟨d0, d1⟩ := HU.out _ hb1; clear hb1)
    | (go_at_call 89; (with_reducible refine (HI.out _ HB1.out).mono ?_); rintro e w2 ⟨rfl, hb2⟩; have HB2 := Lib.hid (up_trans HB1.out hb2); clear hb2))
  go_ret
  exact ⟨rfl, HQ.out _ HB2.out⟩

set_option maxHeartbeats 8000000 in
set_option maxRecDepth 100000 in
theorem ValueMap_any (s v nm : ByteArray) (a b : Int) (B : Nat) (w : World) (hs : s.size ≤ 9223372036854775807) (hv : v.size ≤ 9223372036854775807) (hn : nm.size ≤ 9223372036854775807) (hT : TabB B w) (hB : B ≤ w.heap.size) :
    Calls Tryz.prog 38 #[.string s, .string v, .string nm, .int .i64 a, .int .i64 b] w (TMPost w (vmB s.data.toList v.data.toList nm.data.toList a b)) := by
  have H := valueOf_any s v 100 ((w.alloc (.cells #[.int .i64 a] 3)).alloc (.cells #[.int .i64 b] 3)) hs hv
  have HP := Lib.hid fun w1 => isParameter_any nm w1 hn
  have hsome := fun N x h => valsOf_some (l := s.data.toList) (v := v.data.toList) (n := 100) (N := N) (x := x) h
  have hxok := fun x h => rdVal_ok (l := v.data.toList) (v := x) h
  have hxn := fun x h => rdVal_nodes (l := v.data.toList) (v := x) h
  have hNN := fun N h => clTy_some (l := s.data.toList) (N := N) h
  unfold vmB vmV
  have HNONE : Hid (∀ w' , Below w.heap.size w w' → TMPost w none (.returned (.tuple #[.string ⟨#[]⟩, .bool false])) w') := fun w' hb => ⟨rfl, hb⟩
  have HA2 : Hid (Below w.heap.size w ((w.alloc (.cells #[.int .i64 a] 3)).alloc (.cells #[.int .i64 b] 3))) := up_alloc (up1 w _) _
  have HCL : Hid (∀ w', Below ((w.alloc (.cells #[.int .i64 a] 3)).alloc (.cells #[.int .i64 b] 3)).heap.size ((w.alloc (.cells #[.int .i64 a] 3)).alloc (.cells #[.int .i64 b] 3)) w' → w'.cell? ⟨w.heap.size, 0, none⟩ = some (.int .i64 a) ∧ w'.cell? ⟨w.heap.size + 1, 0, none⟩ = some (.int .i64 b) ∧ w.heap.size < w'.heap.size ∧ w.heap.size + 1 < w'.heap.size ∧ MI w w.heap.size (w.heap.size + 1) a b w') := fun w' hb =>
    have h1 := block_up hb (block_alloc (block_new w (.cells #[.int .i64 a] 3)) (.cells #[.int .i64 b] 3))
    have h2 := block_up hb (new2 w (.cells #[.int .i64 a] 3) (.cells #[.int .i64 b] 3))
    ⟨block_cell h1 0, block_cell h2 0, lt_of_block h1, lt_of_block h2, up_trans HA2.out hb, h1, h2⟩
  clear hs hv hn
  cases ho : valsOf s.data.toList v.data.toList 100 with
  | none =>
    rw [ho] at H
    have HV : Hid (Calls Tryz.prog 51 #[.string s, .string v, .int .i64 100] ((w.alloc (.cells #[.int .i64 a] 3)).alloc (.cells #[.int .i64 b] 3)) fun e w' => Below ((w.alloc (.cells #[.int .i64 a] 3)).alloc (.cells #[.int .i64 b] 3)).heap.size ((w.alloc (.cells #[.int .i64 a] 3)).alloc (.cells #[.int .i64 b] 3)) w' ∧ ∃ p, e = .returned (.tuple #[.pointer p, .pointer none])) := H
    show Calls _ _ _ _ (TMPost w none)
    generalize TMPost w none = Q at *
    clear H hsome hxok hxn hNN ho hT
    go_enter Tryz.func38, Tryz.ntmps38
    go_wp2_with (go_at_call 51; refine HV.out.mono ?_; rintro e w1 ⟨hb1, p1, rfl⟩; have HB1 := Lib.hid (up_trans HA2.out hb1); clear hb1)
    exact HNONE.out _ HB1.out
  | some q =>
    obtain ⟨N, x⟩ := q
    obtain ⟨hc, hr, _, _, hty⟩ := hsome N x ho
    have hok := hxok x hr
    have hnd := hxn x hr
    obtain ⟨_, hNo, hNa, _⟩ := hNN N hc
    rw [ho] at H
    have HV : Hid (Calls Tryz.prog 51 #[.string s, .string v, .int .i64 100] ((w.alloc (.cells #[.int .i64 a] 3)).alloc (.cells #[.int .i64 b] 3)) fun e w' => Below ((w.alloc (.cells #[.int .i64 a] 3)).alloc (.cells #[.int .i64 b] 3)).heap.size ((w.alloc (.cells #[.int .i64 a] 3)).alloc (.cells #[.int .i64 b] 3)) w' ∧ ∃ g q, e = .returned (.tuple #[.pointer (some ⟨g, 0, none⟩), .pointer (some ⟨q, 0, none⟩)]) ∧ TyAt w' (N.db []) (some ⟨g, 0, none⟩) ∧ VAt w' x (some ⟨q, 0, none⟩)) := H
    clear H
    simp only
    cases hp : paramB nm.data.toList with
    | false =>
      rw [hp] at HP
      rw [if_neg (by simp)]
      show Calls _ _ _ _ (TMPost w none)
      generalize TMPost w none = Q at *
      clear hsome hxok hxn hNN ho hok hnd hNo hNa hc hr hty hT
      go_enter Tryz.func38, Tryz.ntmps38
      go_wp2_with (first
        | (go_at_call 51; refine HV.out.mono ?_; rintro e w1 ⟨hb1, g1, q1, rfl, _, _⟩; have HB1 := Lib.hid hb1; clear hb1)
        | (go_at_call 52; refine (HP.out _).mono ?_; rintro e w2 ⟨rfl, hb2⟩; have HB2 := Lib.hid (up_trans HA2.out (up_trans HB1.out hb2)); obtain ⟨d0, d1, l0, l1, _⟩ := HCL.out _ (up_trans HB1.out hb2); clear hb2))
      exact HNONE.out _ HB2.out
    | true =>
      rw [hp] at HP
      by_cases a0 : a < 0
      · have ka0 : decide (a < 0) = true := decide_eq_true a0
        rw [if_neg (by omega)]
        show Calls _ _ _ _ (TMPost w none)
        generalize TMPost w none = Q at *
        clear hsome hxok hxn hNN ho hok hnd hNo hNa hc hr hty hT
        go_enter Tryz.func38, Tryz.ntmps38
        go_wp2_with (first
          | (go_at_call 51; refine HV.out.mono ?_; rintro e w1 ⟨hb1, g1, q1, rfl, _, _⟩; have HB1 := Lib.hid hb1; clear hb1)
          | (go_at_call 52; refine (HP.out _).mono ?_; rintro e w2 ⟨rfl, hb2⟩; have HB2 := Lib.hid (up_trans HA2.out (up_trans HB1.out hb2)); obtain ⟨d0, d1, l0, l1, _⟩ := HCL.out _ (up_trans HB1.out hb2); clear hb2))
        exact HNONE.out _ HB2.out
      have ka0 : decide (a < 0) = false := decide_eq_false a0
      by_cases a9 : 99 < a
      · have ka9 : decide (99 < a) = true := decide_eq_true a9
        rw [if_neg (by omega)]
        show Calls _ _ _ _ (TMPost w none)
        generalize TMPost w none = Q at *
        clear hsome hxok hxn hNN ho hok hnd hNo hNa hc hr hty hT
        go_enter Tryz.func38, Tryz.ntmps38
        go_wp2_with (first
          | (go_at_call 51; refine HV.out.mono ?_; rintro e w1 ⟨hb1, g1, q1, rfl, _, _⟩; have HB1 := Lib.hid hb1; clear hb1)
          | (go_at_call 52; refine (HP.out _).mono ?_; rintro e w2 ⟨rfl, hb2⟩; have HB2 := Lib.hid (up_trans HA2.out (up_trans HB1.out hb2)); obtain ⟨d0, d1, l0, l1, _⟩ := HCL.out _ (up_trans HB1.out hb2); clear hb2))
        exact HNONE.out _ HB2.out
      have ka9 : decide (99 < a) = false := decide_eq_false a9
      by_cases b0 : b < 0
      · have kb0 : decide (b < 0) = true := decide_eq_true b0
        rw [if_neg (by omega)]
        show Calls _ _ _ _ (TMPost w none)
        generalize TMPost w none = Q at *
        clear hsome hxok hxn hNN ho hok hnd hNo hNa hc hr hty hT
        go_enter Tryz.func38, Tryz.ntmps38
        go_wp2_with (first
          | (go_at_call 51; refine HV.out.mono ?_; rintro e w1 ⟨hb1, g1, q1, rfl, _, _⟩; have HB1 := Lib.hid hb1; clear hb1)
          | (go_at_call 52; refine (HP.out _).mono ?_; rintro e w2 ⟨rfl, hb2⟩; have HB2 := Lib.hid (up_trans HA2.out (up_trans HB1.out hb2)); obtain ⟨d0, d1, l0, l1, _⟩ := HCL.out _ (up_trans HB1.out hb2); clear hb2))
        exact HNONE.out _ HB2.out
      have kb0 : decide (b < 0) = false := decide_eq_false b0
      by_cases b9 : 99 < b
      · have kb9 : decide (99 < b) = true := decide_eq_true b9
        rw [if_neg (by omega)]
        show Calls _ _ _ _ (TMPost w none)
        generalize TMPost w none = Q at *
        clear hsome hxok hxn hNN ho hok hnd hNo hNa hc hr hty hT
        go_enter Tryz.func38, Tryz.ntmps38
        go_wp2_with (first
          | (go_at_call 51; refine HV.out.mono ?_; rintro e w1 ⟨hb1, g1, q1, rfl, _, _⟩; have HB1 := Lib.hid hb1; clear hb1)
          | (go_at_call 52; refine (HP.out _).mono ?_; rintro e w2 ⟨rfl, hb2⟩; have HB2 := Lib.hid (up_trans HA2.out (up_trans HB1.out hb2)); obtain ⟨d0, d1, l0, l1, _⟩ := HCL.out _ (up_trans HB1.out hb2); clear hb2))
        exact HNONE.out _ HB2.out
      have kb9 : decide (99 < b) = false := decide_eq_false b9
      obtain ⟨an, rfl⟩ : ∃ an : Nat, a = an := ⟨a.toNat, by omega⟩
      obtain ⟨bn, rfl⟩ : ∃ bn : Nat, b = bn := ⟨b.toNat, by omega⟩
      have ha9 : an ≤ 99 := by omega
      have hb9 : bn ≤ 99 := by omega
      rw [if_pos ⟨rfl, by omega, by omega, by omega, by omega⟩, Int.toNat_natCast, Int.toNat_natCast]
      have hxt := turn_ok (fun x s h => mapF_ok nm.data.toList an bn x h) x [] (N.db []) hok
      have htn : (x.turn (mapF nm.data.toList an bn) [] (N.db [])).nodes = x.nodes := turn_nodes _ x [] (N.db [])
      have HM : Hid (∀ w1 p q, TyAt w1 (N.db []) p → VAt w1 x q → MI w w.heap.size (w.heap.size + 1) an bn w1 → Calls Tryz.prog 74 #[.agg #[.pointer p, .pointer none], .pointer q, .string nm, .func (.func 87) #[] #[.pointer (some ⟨w.heap.size, 0, none⟩), .pointer (some ⟨w.heap.size + 1, 0, none⟩)]] w1 fun e w' => ∃ g, e = .returned (.pointer g) ∧ VAt w' (x.turn (mapF nm.data.toList an bn) [] (N.db [])) g ∧ Below w.heap.size w w') := fun w1 p q h1 h2 h3 => by
        have := mapM_any (fun acc w1 => MI w w.heap.size (w.heap.size + 1) an bn w1) (fun acc w1 w2 h hb => h.up hb) (fun s => elT ((an * elN s + bn) % 100)) nm.data.toList (some ⟨w.heap.size, 0, none⟩) (some ⟨w.heap.size + 1, 0, none⟩) 100 (fun s acc w1 hs hl hi => valueMap_clo B w hT hB _ _ an bn ha9 hb9 s hs w1 hi) _ x (Nat.le_refl _) (N.db []) [] w1 p none q [] h3 h1 rfl h2 (db_scoped N []) (scoped_bs _ 0 (db_scoped N []) (by rw [NT.db_atoms]; omega)) EnvG.nil hok hty (by simp; omega)
        refine this.mono ?_
        rintro e w' ⟨g, he, hvt, hi, _⟩
        exact ⟨_, he, hvt, hi.1⟩
      generalize x.turn (mapF nm.data.toList an bn) [] (N.db []) = y at *
      have HX : Hid (∀ w1 g, VAt w1 y g → Calls Tryz.prog 90 #[.pointer g] w1 fun e w' => e = .returned (.string (St y.toTr.txt)) ∧ Below w1.heap.size w1 w') := fun w1 g h => text_any y hxt (by omega) w1 g h
      have HQ : Hid (∀ w', Below w.heap.size w w' → TMPost w (some y.toTr.txt) (.returned (.tuple #[.string (St y.toTr.txt), .bool true])) w') := fun w' h => ⟨rfl, h⟩
      show Calls _ _ _ _ (TMPost w (some y.toTr.txt))
      generalize y.toTr.txt = out at *
      generalize TMPost w (some out) = Q at *
      clear hsome hxok hxn hNN ho hok hnd hNo hNa hc hr hty hT hxt htn HNONE a0 a9 b0 b9 ha9 hb9
      go_enter Tryz.func38, Tryz.ntmps38
      go_wp2_with (first
        | (go_at_call 51; refine HV.out.mono ?_; rintro e w1 ⟨hb1, g1, q1, rfl, ht1, hv1⟩; have HB1 := Lib.hid hb1; have HT1 := Lib.hid ht1; have HV1 := Lib.hid hv1; clear hb1 ht1 hv1)
        | (go_at_call 52; refine (HP.out _).mono ?_; rintro e w2 ⟨rfl, hb2⟩; have HT2 := Lib.hid (HT1.out.up hb2); have HV2 := Lib.hid (HV1.out.up hb2); obtain ⟨d0, d1, l0, l1, hmi⟩ := HCL.out _ (up_trans HB1.out hb2); have HMI := Lib.hid hmi; clear hb2 hmi)
        | (go_at_call 74; (with_reducible refine (HM.out _ _ _ HT2.out HV2.out HMI.out).mono ?_); rintro e w3 ⟨g3, rfl, hv3, hb3⟩; have HV3 := Lib.hid hv3; have HB3 := Lib.hid hb3; clear hv3 hb3)
        | (go_at_call 90; (with_reducible refine (HX.out _ _ HV3.out).mono ?_); rintro e w4 ⟨rfl, hb4⟩; have HB4 := Lib.hid (up_trans HB3.out hb4); clear hb4))
      exact HQ.out _ HB4.out

end Go.Proofs.YtpokompplapkhaaGreatDoor
