/- Draws of values. DrawTypeUnroll. Draws of types with parameters. Draws of types with values. Draws of types with values: holes; a number. -/
import Derived.Test.YtpokompplapkhaaGreatDoorNC
import Derived.Test.YtpokompplapkhaaGreatDoorMK
import Derived.Test.YtpokompplapkhaaGreatDoorMH
import Derived.Test.YtpokompplapkhaaGreatDoorMJ
import Derived.Test.YtpokompplapkhaaGreatDoorTk
namespace Go.Proofs.YtpokompplapkhaaGreatDoor
set_option maxHeartbeats 8000000
set_option maxRecDepth 100000
open Go.RowKit
set_option linter.unusedVariables false
set_option linter.unusedSimpArgs false
def noVals : List (List UInt8) := [[], [117], [101, 48], [101, 48, 48], [101, 49, 48, 48], [40, 108, 32, 117, 41], [40, 112, 32, 117, 41], [40, 102, 32, 40, 108, 32, 117, 41, 41], [40, 120, 32, 117, 41], [40, 108, 32, 32, 117, 41]]
theorem l91Closed_any (r : Nat) (B : Option Addr) (n c K : Nat) (w : World) (h : RB w r B n c K) (hk : K + 20000 <= 1000000000000) :
 Calls Tryz.prog 77 #[.pointer (some ⟨r, 0, none⟩)] w (DPost w r B n c (K + 20000) 100000) := by
 have HR := Lib.hid h
 have HPK : Hid (Calls Tryz.prog 79 #[.pointer (some ⟨r, 0, none⟩), .int .i64 8] w fun e w' => ∃ x : Int, 0 <= x /\ x < 8 /\ e = .returned (.int .i64 x) /\ RB w' r B n c (K + 1) /\ w.grownBy w' (some r)) := pick_rb r B n c K 8 w h (by omega) (by omega) (by omega)
 have HT : Hid (∀ w1, RB w1 r B n c (K + 1) -> Calls Tryz.prog 134 #[.pointer (some ⟨r, 0, none⟩)] w1 (DPost w1 r B n c (K + 1 + 10000) 100000)) := fun w1 h => l91Type_any r B n c _ w1 h (by omega)
 have HKN : Hid (∀ w1, RB w1 r B n c (K + 1) -> Calls Tryz.prog 136 #[.pointer (some ⟨r, 0, none⟩)] w1 (DPost w1 r B n c (K + 1 + 1) 1000)) := fun w1 h => l91Known_any r B n c _ w1 h (by omega)
 have HS3 : Hid (∀ w1, RB w1 r B n c (K + 1) -> Calls Tryz.prog 135 #[.pointer (some ⟨r, 0, none⟩), .slice (some ⟨w1.heap.size, 0, none⟩) 0 0, .int .i64 3] (w1.alloc (.cells #[] 9)) fun e w' => ∃ s : ByteArray, s.size <= 100000 /\ e = .returned (.string s) /\ RB w' r B n c (K + 1 + 9000) /\ w1.grownBy w' (some r)) := fun w1 h => by
  refine (l91Shape_any 3 (by omega) r B n c (K + 1) _ 0 [] _ (h.up (up1 w1 _)) (by simp only [SK]; omega) (.inl rfl) (by simp) (by decide)).mono ?_
  rintro e w' ⟨s, h1, h2, h3, h4⟩
  exact ⟨s, Nat.le_trans h1 (by decide), h2, h3.mono (by simp only [SK]; omega), up_grow (up1 w1 _) h4⟩
 clear h
 go_enter Tryz.func77, Tryz.ntmps77
 go_wp2_with (first
  | (go_at_call 79; (with_reducible refine HPK.out.mono ?_); rintro e w1 ⟨x, hx0, hx1, rfl, hr, hg⟩; have HG := Lib.hid hg; have HR1 := Lib.hid hr; clear hr hg)
  | (go_at_call 134; (with_reducible refine (HT.out _ HR1.out).mono ?_); rintro e w2 ⟨s, hs, rfl, hr, hg⟩; have HS := Lib.hid hs; have HG2 := Lib.hid (grow_grow HG.out hg (.inl rfl)); have HR2 := Lib.hid (hr.mono (show _ <= K + 20000 by omega)); clear hs hr hg)
  | (go_at_call 136; (with_reducible refine (HKN.out _ HR1.out).mono ?_); rintro e w2 ⟨s, hs, rfl, hr, hg⟩; have HS := Lib.hid (show s.size <= 100000 by omega); have HG2 := Lib.hid (grow_grow HG.out hg (.inl rfl)); have HR2 := Lib.hid (hr.mono (show _ <= K + 20000 by omega)); clear hs hr hg)
  | (go_at_call 135; (with_reducible refine (HS3.out _ HR1.out).mono ?_); rintro e w2 ⟨s, hs, rfl, hr, hg⟩; have HS := Lib.hid hs; have HG2 := Lib.hid (grow_grow HG.out hg (.inl rfl)); have HR2 := Lib.hid (hr.mono (show _ <= K + 20000 by omega)); clear hs hr hg))
 all_goals go_ret
 all_goals exact ⟨s, HS.out, rfl, HR2.out, HG2.out⟩
theorem RB.blk {w : World} {r : Nat} {B : Option Addr} {n c K : Nat} (h : RB w r B n c K) : ∃ cs, w.heap[r]? = some (.cells cs 158 (0, 0)) := by
 obtain ⟨p, _, hr, _⟩ := h
 exact ⟨_, hr⟩
theorem far_row (w : World) (r gp : Nat) (hr : ∃ cs, w.heap[r]? = some (.cells cs 158 (0, 0))) (ls : List (List UInt8)) (cs : Array Value) (hrow : w.heap[gp]? = some (.cells cs 9 (0, 0))) (hcs : cs = (strs ls).toArray) : SFar w (some ⟨gp, 0, none⟩) r ls := by
 refine .inr ⟨gp, 0, rfl, ?_, lt_of_block hrow, fun i l hl => ?_⟩
 · rintro rfl
   obtain ⟨cs', h⟩ := hr
   rw [hrow] at h
   simp at h
 · rw [block_cell hrow, hcs, Nat.zero_add]
   simp [strs, hl]
theorem l91Value_any (s : ByteArray) (hs : s.size <= 9223372036854775807) (r : Nat) (B : Option Addr) (n c K : Nat) (w : World) (h : RB w r B n c K) (hk : K + 5000000000 <= 1000000000000) :
 Calls Tryz.prog 78 #[.pointer (some ⟨r, 0, none⟩), .string s] w (DPost w r B n c (K + 5000000000) 100000000000) := by
 have HR := Lib.hid h
 have HCL := Lib.hid (l1Closed_any s w hs)
 have HOFL : Hid (∀ w1 K' gp cs, RB w1 r B n c K' -> K' <= 1000000000000 -> w1.heap[gp]? = some (.cells cs 9 (0, 0)) -> cs = (strs noVals).toArray -> Calls Tryz.prog 137 #[.pointer (some ⟨r, 0, none⟩), .slice (some ⟨gp, 0, none⟩) 10 10] w1 fun e w' => ∃ s : ByteArray, s.size <= 100000000000 /\ e = .returned (.string s) /\ RB w' r B n c (K' + 1) /\ w1.grownBy w' (some r)) := fun w1 K' gp cs h hk' hrow hcs =>
  (of_any r B n c K' (some ⟨gp, 0, none⟩) 10 noVals w1 h hk' (far_row w1 r gp h.blk noVals cs hrow hcs) (by simp [noVals]) (by decide)).mono fun e w' ⟨s, hm, h2, h3, h4⟩ => ⟨St s, (by have : ∀ s ∈ noVals, s.length <= 100000000000 := (by decide); exact this s hm), h2, h3, h4⟩
 have HPK : Hid (∀ w1 K' (m : Int), RB w1 r B n c K' -> K' <= 1000000000000 -> 1 <= m -> m <= 1000000 -> Calls Tryz.prog 79 #[.pointer (some ⟨r, 0, none⟩), .int .i64 m] w1 fun e w' => ∃ x : Int, 0 <= x /\ x < m /\ e = .returned (.int .i64 x) /\ RB w' r B n c (K' + 1) /\ w1.grownBy w' (some r)) := fun w1 K' m h hk h1 h2 => pick_rb r B n c K' m w1 h hk h1 h2
 have hn := fun v h => rdTy_some (l := s.data.toList) (n := v) h
 have hlt := h.lt
 clear h hs
 generalize rdTy s.data.toList = o at *
 cases hcl : closedOf o with
 | false =>
  have HCL2 : Hid (Calls Tryz.prog 48 #[.string s] w fun e w' => Below w.heap.size w w' /\ ∃ x A n' c, e = .returned (.tuple #[.agg #[.string x, .slice A n' c], .bool false])) := HCL.out.mono fun e w' ⟨h1, x, A, n', c, h2, _⟩ => ⟨h1, x, A, n', c, by rw [h2, hcl]⟩
  clear HCL hn hcl
  go_enter Tryz.func78, Tryz.ntmps78
  go_wp2_with (first
   | (go_at_call 48; (with_reducible refine HCL2.out.mono ?_); rintro e w1 ⟨hb1, x1, A1, m1, c1, rfl⟩; have HB1 := Lib.hid (up_alloc hb1 (.cells #[.string x1, .slice A1 m1 c1] 59)); clear hb1)
   | (go_at_call 137; (refine (HOFL.out _ _ _ _ ((HR.out.up HB1.out).up (by repeat (first | exact Below.refl _ _ | refine up_drew ?_ | refine up_alloc ?_ _))) (by omega) (by first | exact block_new _ _ | exact new2 _ _ _ | exact old2 _ _ _) rfl).mono ?_); rintro e w2 ⟨s2, hs2, rfl, hr2, hg2⟩; have HS := Lib.hid hs2; have HR2 := Lib.hid (hr2.mono (show _ <= K + 5000000000 by omega)); have HG2 := Lib.hid (up_grow (up_trans HB1.out (by repeat (first | exact Below.refl _ _ | refine up_drew ?_ | refine up_alloc ?_ _))) hg2); clear hs2 hr2 hg2))
  go_ret
  exact ⟨s2, HS.out, rfl, HR2.out, HG2.out⟩
 | true =>
  cases o with
  | none => cases hcl
  | some N =>
   obtain ⟨hok, hat⟩ := hn N rfl
   have HCL2 : Hid (Calls Tryz.prog 48 #[.string s] w fun e w' => Below w.heap.size w w' /\ ∃ x A n' c, e = .returned (.tuple #[.agg #[.string x, .slice A n' c], .bool true]) /\ TAt w' (fun _ => True) N.toTr (.agg #[.string x, .slice A n' c])) := HCL.out.mono fun e w' ⟨h1, x, A, n', c, h2, h3⟩ => ⟨h1, x, A, n', c, by rw [h2, hcl], (h3 N rfl).weak fun _ _ => trivial⟩
   have h3 : N.apart.ok3 := ren_ok3 N.names N [] 0 (ok_ok3 hok) (by simp) (by
    have h1 := names_len N
    have h2 : N.atoms * (N.names.length + 1) <= 400 * 401 := Nat.mul_le_mul hat (by omega)
    omega)
   have ha : N.apart.atoms <= 400 := by rw [show N.apart.atoms = N.atoms from ren_atoms N.names N [] 0]; exact hat
   have HAP : Hid (∀ w1 v, TAt w1 (fun _ => True) N.toTr v -> Calls Tryz.prog 139 #[v, .slice none 0 0] w1 fun e w' => (∃ x A n' c, e = .returned (.agg #[.string x, .slice A n' c]) /\ TAt w' (fun _ => True) N.apart.toTr (.agg #[.string x, .slice A n' c])) /\ Below w1.heap.size w1 w') := fun w1 v hp => (l1Apart_any N hok hat v w1 _ 0 hp).mono fun e w' ⟨⟨x, A, n', c, h1, h2⟩, h3⟩ => ⟨⟨x, A, n', c, h1, h2.weak fun _ _ => trivial⟩, h3⟩
   have HFI : Hid (∀ (d : Int) w1 K' v, 0 <= d -> d <= 9 -> RB w1 r B n c K' -> K' + 4000000000 <= 1000000000000 -> TAt w1 (fun _ => True) N.apart.toTr v -> Calls Tryz.prog 138 #[.pointer (some ⟨r, 0, none⟩), v, .int .i64 d] w1 (FillPost w1 r B n c (K' + 4000000000) 100000000000)) := fun d w1 K' v h0 h1 hr hk hp => l91Fill_any N.apart h3 ha d h0 h1 r B n c K' w1 v hr hk hp
   have HTX : Hid (∀ (tr : Tr) (w1 : World) v, tr.wf -> tr.txt.length <= 100000000000 -> TAt w1 (fun _ => True) tr v -> Calls Tryz.prog 65 #[v] w1 fun e w' => e = .returned (.string (St tr.txt)) /\ Below w1.heap.size w1 w') := fun tr w1 v hw hl ht => l1Text_any _ tr (Nat.le_refl _) hw (Nat.le_trans hl (by decide)) v w1 ht
   clear HCL hn hcl hok hat h3 ha
   generalize N.apart = NA at *
   go_enter Tryz.func78, Tryz.ntmps78
   go_upto_region 2 with (go_at_call 48; (with_reducible refine HCL2.out.mono ?_); rintro e w1 ⟨hb1, x1, A1, m1, c1, rfl, ht1⟩; have HB1 := Lib.hid (up_alloc hb1 (.cells #[.string x1, .slice A1 m1 c1] 59)); have HT1 := Lib.hid (ht1.up (up1 w1 (.cells #[.string x1, .slice A1 m1 c1] 59))); have T1 := Lib.hid (block_new w1 (.cells #[.string x1, .slice A1 m1 c1] 59)); clear hb1 ht1)
   have hlt1 : r < w1.heap.size \/ r = w1.heap.size \/ w1.heap.size < r := by omega
   go_wp2_with (first
    | (go_at_call 79; first
     | (have HT3q := HT3.out; clear HT3; (refine (HPK.out _ _ _ HR3.out (by omega) (by decide) (by decide)).mono ?_); rintro e w4 ⟨y, hy0, hy1, rfl, hr4, hg4⟩; have HR4 := Lib.hid hr4; have HG4 := Lib.hid (grow_grow HG3.out hg4 (.inl rfl)); have HT4 := Lib.hid (HT3q.keep (HR3.out.keeps hg4)); have hwr : IntKind.i64.wrap (5 + y) = 5 + y := (by rw [IntKind.wrap_i64]; omega); clear hr4 hg4)
     | ((refine (HPK.out _ _ _ (HR.out.up HB1.out) (by omega) (by decide) (by decide)).mono ?_); rintro e w2 ⟨x, hx0, hx1, rfl, hr2, hg2⟩; have HR2 := Lib.hid hr2; have HG2 := Lib.hid (up_grow HB1.out hg2); have HT2 := Lib.hid (HT1.out.keep ((HR.out.up HB1.out).keeps hg2)); have T2 := Lib.hid ((HR.out.up HB1.out).keeps hg2 _ _ _ T1.out); have t20 := block_cell T2.out 0; have t21 := block_cell T2.out 1; clear hr2 hg2))
    | (go_at_call 137; (refine (HOFL.out _ _ _ _ (HR2.out.up (by repeat (first | exact Below.refl _ _ | refine up_drew ?_ | refine up_alloc ?_ _))) (by omega) (by first | exact block_new _ _ | exact new2 _ _ _ | exact old2 _ _ _) rfl).mono ?_); rintro e w3 ⟨s2, hs2, rfl, hr3, hg3⟩; have HS := Lib.hid hs2; have HRE := Lib.hid (hr3.mono (show _ <= K + 5000000000 by omega)); have HGE := Lib.hid (grow_grow (grow_up2 HG2.out (by repeat (first | exact Below.refl _ _ | refine up_drew ?_ | refine up_alloc ?_ _))) hg3 (.inl rfl)); clear hs2 hr3 hg3)
    | (go_at_call 139; (refine (HAP.out _ _ HT2.out).mono ?_); rintro e w3 ⟨⟨x3, A3, m3, c3, rfl, ht3⟩, hb3⟩; have HT3 := Lib.hid ht3; have HR3 := Lib.hid (HR2.out.up hb3); have HG3 := Lib.hid (grow_up2 HG2.out hb3); clear ht3 hb3)
    | (go_at_call 138; (refine (HFI.out _ _ _ _ (by omega) (by omega) HR4.out (by omega) HT4.out).mono ?_); rintro e w5 ⟨tr, x5, A5, m5, c5, rfl, hw5, hl5, ht5, hr5, hg5⟩; have HW5 := Lib.hid hw5; have HL5 := Lib.hid hl5; have HT5 := Lib.hid (ht5.weak (ok' := fun _ => True) fun _ _ => trivial); have HR5 := Lib.hid hr5; have HG5 := Lib.hid (grow_grow HG4.out hg5 (.inl rfl)); clear hw5 hl5 ht5 hr5 hg5)
    | (go_at_call 65; (refine (HTX.out tr _ _ HW5.out HL5.out HT5.out).mono ?_); rintro e w6 ⟨rfl, hb6⟩; have HRE := Lib.hid ((HR5.out.up hb6).mono (show _ <= K + 5000000000 by omega)); have HGE := Lib.hid (grow_up2 HG5.out hb6); clear hb6))
   all_goals go_ret
   all_goals first
    | exact ⟨s2, HS.out, rfl, HRE.out, HGE.out⟩
    | exact ⟨St tr.txt, HL5.out, rfl, HRE.out, HGE.out⟩
end Go.Proofs.YtpokompplapkhaaGreatDoor
namespace Go.Proofs.YtpokompplapkhaaGreatDoor
set_option maxHeartbeats 8000000
set_option maxRecDepth 100000
open Go.RowKit
set_option linter.unusedVariables false
set_option linter.unusedSimpArgs false
end Go.Proofs.YtpokompplapkhaaGreatDoor
namespace Go.Proofs.YtpokompplapkhaaGreatDoor
set_option maxHeartbeats 8000000
set_option maxRecDepth 100000
open Go.RowKit
set_option linter.unusedVariables false
set_option linter.unusedSimpArgs false
def pnames : List (List UInt8) := [[120], [120], [121], [120], [116], [122]]
theorem l91Name_any (r : Nat) (B : Option Addr) (n c K : Nat) (w : World) (h : RB w r B n c K) (hk : K <= 1000000000000) :
 Calls Tryz.prog 86 #[.pointer (some ⟨r, 0, none⟩)] w (DPost w r B n c (K + 1) 1000) := by
 have HP : Hid (∀ cs, cs = (strs pnames).toArray -> Calls Tryz.prog 137 #[.pointer (some ⟨r, 0, none⟩), .slice (some ⟨w.heap.size, 0, none⟩) 6 6] (w.alloc (.cells cs 9)) fun e w' => ∃ s ∈ pnames, e = .returned (.string (St s)) /\ RB w' r B n c (K + 1) /\ (w.alloc (.cells cs 9)).grownBy w' (some r)) := fun cs hcs => of_any r B n c K _ 6 pnames _ (h.up (up1 w _)) hk (far_new w r h.lt pnames cs hcs _) (by simp [pnames]) (by decide)
 have HK : Hid (∀ s ∈ pnames, s.length <= 1000) := by show ∀ s ∈ pnames, s.length <= 1000; decide
 clear h hk
 go_enter Tryz.func86, Tryz.ntmps86
 go_wp2_with (go_at_call 137; refine (HP.out _ rfl).mono ?_; rintro e w1 ⟨s, hs, rfl, hr, hg⟩; have HR := Lib.hid hr; have HG := Lib.hid hg; have HS := Lib.hid hs; clear hr hg hs)
 go_ret
 exact ⟨St s, HK.out s HS.out, rfl, HR.out, up_grow (up1 w _) HG.out⟩
end Go.Proofs.YtpokompplapkhaaGreatDoor
namespace Go.Proofs.YtpokompplapkhaaGreatDoor
set_option maxHeartbeats 8000000
set_option maxRecDepth 100000
open Go.RowKit
set_option linter.unusedVariables false
set_option linter.unusedSimpArgs false
theorem l91Given_any (r : Nat) (B : Option Addr) (n c K : Nat) (w : World) (h : RB w r B n c K) (hk : K + 20000 + 5000000000 <= 1000000000000) :
 Calls Tryz.prog 85 #[.pointer (some ⟨r, 0, none⟩)] w fun e w' => ∃ s v : ByteArray, s.size <= 100000 /\ v.size <= 100000000000 /\ e = .returned (.tuple #[.string s, .string v]) /\ RB w' r B n c (K + 20000 + 5000000000) /\ w.grownBy w' (some r) := by
 have HT : Hid (Calls Tryz.prog 77 #[.pointer (some ⟨r, 0, none⟩)] w (DPost w r B n c (K + 20000) 100000)) := l91Closed_any r B n c K w h (by omega)
 have HV : Hid (∀ (s : ByteArray) (w1 : World), s.size <= 100000 -> RB w1 r B n c (K + 20000) -> Calls Tryz.prog 78 #[.pointer (some ⟨r, 0, none⟩), .string s] w1 (DPost w1 r B n c (K + 20000 + 5000000000) 100000000000)) := fun s w1 hs h => l91Value_any s (by omega) r B n c _ w1 h (by omega)
 clear h
 go_enter Tryz.func85, Tryz.ntmps85
 go_wp2_with (first
  | (go_at_call 77; (with_reducible refine HT.out.mono ?_); rintro e w2 ⟨s, hs, rfl, hr, hg⟩; have HS := Lib.hid hs; have HR2 := Lib.hid hr; have HG2 := Lib.hid hg; clear hs hr hg)
  | (go_at_call 78; (with_reducible refine (HV.out _ _ HS.out HR2.out).mono ?_); rintro e w3 ⟨s2, hs2, rfl, hr, hg⟩; have HS2 := Lib.hid hs2; have HR3 := Lib.hid hr; have HG3 := Lib.hid (grow_grow HG2.out hg (.inl rfl)); clear hs2 hr hg))
 go_ret2
 exact ⟨s, s2, HS.out, HS2.out, rfl, HR3.out, HG3.out⟩
end Go.Proofs.YtpokompplapkhaaGreatDoor
namespace Go.Proofs.YtpokompplapkhaaGreatDoor
set_option maxHeartbeats 8000000
set_option maxRecDepth 100000
open Go.RowKit
set_option linter.unusedVariables false
set_option linter.unusedSimpArgs false
def HolPost (w : World) (e : Ending) (w' : World) : Prop := ∃ s nm v : ByteArray, s.size <= 100000 /\ nm.size <= 1000 /\ v.size <= 100000000000 /\ e = .returned (.tuple #[.string s, .string nm, .string v]) /\ Below w.heap.size w w'
theorem DrawHolesOf_any (a : Option Addr) (n c : Nat) (w : World) (h : CodeRow w a n c) : Calls Tryz.prog 45 #[.slice a n c] w (HolPost w) := by
 have HO := Lib.hid (l6Open_any a n c w h.1 h.2)
 have HT : Hid (∀ (w : World) (r : Nat) (B : Option Addr) (n c : Nat), RB w r B n c 0 -> Calls Tryz.prog 85 #[.pointer (some ⟨r, 0, none⟩)] w fun e w' => ∃ s v : ByteArray, s.size <= 100000 /\ v.size <= 100000000000 /\ e = .returned (.tuple #[.string s, .string v]) /\ RB w' r B n c (0 + 20000 + 5000000000) /\ w.grownBy w' (some r)) := fun w r B n c h => l91Given_any r B n c 0 w h (by omega)
 have HN : Hid (∀ (w : World) (r : Nat) (B : Option Addr) (n c : Nat), RB w r B n c (0 + 20000 + 5000000000) -> Calls Tryz.prog 86 #[.pointer (some ⟨r, 0, none⟩)] w (DPost w r B n c (0 + 20000 + 5000000000 + 1) 1000)) := fun w r B n c h => l91Name_any r B n c _ w h (by omega)
 clear h
 go_enter Tryz.func45, Tryz.ntmps45
 go_wp2_with (first
  | (go_at_call 76; refine HO.out.mono ?_; rintro e w1 ⟨r, B', n', c', rfl, hr, hb, hlt⟩; have HR := Lib.hid hr; have HB := Lib.hid hb; have HL := Lib.hid hlt; clear hr hb hlt)
  | (go_at_call 85; (with_reducible refine (HT.out _ _ _ _ _ HR.out).mono ?_); rintro e w2 ⟨s, v, hs, hv, rfl, hr, hg⟩; have HS := Lib.hid hs; have HV := Lib.hid hv; have HR2 := Lib.hid hr; have HB2 := Lib.hid (up_grown HB.out hg HL.out); clear hs hv hr hg)
  | (go_at_call 86; (with_reducible refine (HN.out _ _ _ _ _ HR2.out).mono ?_); rintro e w3 ⟨s2, hs2, rfl, _, hg⟩; have HS2 := Lib.hid hs2; have HB3 := Lib.hid (up_grown HB2.out hg HL.out); clear hs2 hg))
 refine bodyPost_ret (v := .tuple #[.string s, .string s2, .string v]) (by simp [results, Tryz.results45, go_sem]) rfl ?_
 exact ⟨s, s2, v, HS.out, HS2.out, HV.out, rfl, HB3.out⟩
theorem DrawHoleCount_any (a : Option Addr) (n c : Nat) (w : World) (h : CodeRow w a n c) : Calls Tryz.prog 29 #[.slice a n c] w (HolPost w) := by
 have HD := Lib.hid (DrawHolesOf_any a n c w h)
 clear h
 go_enter Tryz.func29, Tryz.ntmps29
 go_wp2_with (go_at_call 45; (with_reducible refine HD.out.mono ?_); rintro e w1 ⟨s, s2, v, hs, hs2, hv, rfl, hb⟩; have HS := Lib.hid hs; have HS2 := Lib.hid hs2; have HV := Lib.hid hv; have HB1 := Lib.hid hb; clear hs hs2 hv hb)
 refine bodyPost_ret (v := .tuple #[.string s, .string s2, .string v]) (by simp [results, Tryz.results29, go_sem]) rfl ?_
 exact ⟨s, s2, v, HS.out, HS2.out, HV.out, rfl, HB1.out⟩
end Go.Proofs.YtpokompplapkhaaGreatDoor

