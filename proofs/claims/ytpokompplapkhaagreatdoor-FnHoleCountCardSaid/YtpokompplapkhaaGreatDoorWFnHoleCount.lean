/- The law FnHoleCount, walked. -/
import Derived.Test.YtpokompplapkhaaGreatDoorHolF
import Derived.Test.YtpokompplapkhaaGreatDoorNF
import Derived.Test.YtpokompplapkhaaGreatDoorVMapI
import Derived.Test.YtpokompplapkhaaGreatDoorND
namespace Go.Proofs.YtpokompplapkhaaGreatDoor
set_option maxHeartbeats 4000000
set_option maxRecDepth 100000
open Go.RowKit
set_option linter.unusedVariables false
set_option linter.unusedSimpArgs false
def cnt (l : List (List UInt8)) (e : List UInt8) (k : Nat) : Nat := (l.take k).countP fun s => decide (s = e)
theorem cnt_le (l : List (List UInt8)) (e : List UInt8) (k : Nat) : cnt l e k <= k := by
 have h1 := List.countP_le_length (p := fun s => decide (s = e)) (l := l.take k)
 have h2 := List.length_take_le k l
 exact Nat.le_trans h1 h2
theorem cnt_yes {l : List (List UInt8)} {e : List UInt8} {k : Nat} (h : l[k]? = some e) : cnt l e (k + 1) = cnt l e k + 1 := by
 unfold cnt
 rw [List.take_add_one, h]
 simp
theorem cnt_no {l : List (List UInt8)} {e x : List UInt8} {k : Nat} (h : l[k]? = some x) (hx : ¬ x = e) : cnt l e (k + 1) = cnt l e k := by
 unfold cnt
 rw [List.take_add_one, h]
 simp [hx]
theorem cnt_all (l : List (List UInt8)) (e : List UInt8) {n : Nat} (h : l.length = n) : cnt l e n = l.countP fun s => decide (s = e) := by
 unfold cnt
 rw [List.take_of_length_le (by omega)]
theorem lawFnHoleCount (a : Option Addr) (n c : Nat) (w : World) (h : CodeRow w a n c) :
 Calls Tryz.prog 9 #[.slice a n c] w fun e w' => e = .returned (.bool true) /\ Below w.heap.size w w' := by
 have HD := Lib.hid (DrawHoleCount_any a n c w h)
 clear h
 cases hc : decide ((n : Int) > 1048576) with
 | true =>
  have hc' : decide (1048576 < n) = true := by simp at hc ⊢; omega
  have hc2 : decide ((1048576 : Int) < (n : Int)) = true := by simp at hc ⊢; omega
  go_enter Tryz.func9, Tryz.ntmps9
  go_wp2_with fail
  go_ret
  exact ⟨rfl, Below.refl _ _⟩
 | false =>
  have hc' : decide (1048576 < n) = false := by simp at hc ⊢; omega
  have hc2 : decide ((1048576 : Int) < (n : Int)) = false := by simp at hc ⊢; omega
  go_enter Tryz.func9, Tryz.ntmps9
  go_wp2_with (go_at_call 29; refine HD.out.mono ?_; rintro e w1 ⟨s, nm, v, hs, hnm, hv, rfl, hb1⟩; have HB1 := Lib.hid hb1; have HS := Lib.hid hs; have HNM := Lib.hid hnm; have HV := Lib.hid hv; clear hb1 hs hv hnm)
  have hs9 : s.size <= 9223372036854775807 := by have := HS.out; omega
  have hv9 : v.size <= 9223372036854775807 := by have := HV.out; omega
  have hn9 : nm.size <= 9223372036854775807 := by have := HNM.out; omega
  have H1 := Lib.hid fun w1 => HoleCount_any s nm v w1 hs9 hv9 hn9
  have H2 := Lib.hid fun w1 => specHoleCount_any s nm v w1 hs9 hv9
  have H3 := Lib.hid fun w1 => ValueOf_any s v nm w1 hs9 hv9 hn9
  have H4 := Lib.hid fun w1 => HolesOf_any s nm v w1 hs9 hv9 hn9
  cases ho : holB s.data.toList nm.data.toList v.data.toList with
  | none =>
   have hz : hcB s.data.toList nm.data.toList v.data.toList = -1 := by unfold hcB; rw [ho]
   rw [hz] at H1 H2
   clear ho H3 H4 hz hs9 hv9 hn9
   go_wp2_with (first
    | (go_at_call 17; (with_reducible refine (H1.out _).mono ?_); rintro e w2 ⟨rfl, hb2⟩; have HB2 := Lib.hid (up_trans HB1.out hb2); clear hb2)
    | (go_at_call 16; (with_reducible refine (H2.out _).mono ?_); rintro e w3 ⟨rfl, hb3⟩; have HB3 := Lib.hid (up_trans HB2.out hb3); clear hb3))
   go_ret
   exact ⟨rfl, HB3.out⟩
  | some hs0 =>
   obtain ⟨L, hvo, hLl, hn200, hcnt⟩ := count_facts ho
   have hz : hcB s.data.toList nm.data.toList v.data.toList = (hs0.length : Int) := by unfold hcB; rw [ho]
   have hfl := fl_len hs0
   have hE : ∀ i e, (hs0.map fun p => p.2.toTr.txt)[i]? = some e -> (fl hs0)[i * 2 + 1]? = some e := fun i e h => by
    rw [List.getElem?_map] at h
    cases hi : hs0[i]? with
    | none => rw [hi] at h; cases h
    | some p =>
     rw [hi] at h
     cases h
     rw [Nat.mul_comm i 2]
     exact (fl_get hs0 i p hi).2
   have hEl : (hs0.map fun p => p.2.toTr.txt).length = hs0.length := List.length_map ..
   have hcnt2 : ∀ t, L.countP (fun s => decide (s = t)) = (hs0.map fun p => p.2.toTr.txt).countP fun s => decide (s = t) := fun t => by
    rw [hcnt t, List.countP_map]
    rfl
   rw [hz] at H1 H2
   rw [hvo] at H3
   rw [ho] at H4
   replace H3 : Hid (∀ w1, Calls Tryz.prog 30 #[.string s, .string v, .string nm] w1 fun e w' => Below w1.heap.size w1 w' /\ ∃ g c, e = .returned (.tuple #[.slice (some ⟨g, 0, none⟩) hs0.length c, .bool true]) /\ SOwn w' w1.heap.size L g c) := Lib.hid fun w1 => (H3.out w1).mono fun e w' ⟨h1, g, c, h2, h3⟩ => ⟨h1, g, c, by rw [h2, hLl], h3⟩
   replace H4 : Hid (∀ w1, Calls Tryz.prog 19 #[.string s, .string nm, .string v] w1 fun e w' => Below w1.heap.size w1 w' /\ ∃ g c, e = .returned (.tuple #[.slice (some ⟨g, 0, none⟩) hs0.length c, .bool true]) /\ POwn w' w1.heap.size (fl hs0) g hs0.length c) := H4
   have HEI := Lib.hid hE
   have HCN : Hid (∀ e, cnt L e hs0.length = cnt (hs0.map fun p => p.2.toTr.txt) e hs0.length) := fun e => by
    rw [cnt_all L e hLl, cnt_all _ e hEl, hcnt2]
   generalize (hs0.map fun p => p.2.toTr.txt) = E at *
   generalize fl hs0 = FL at *
   generalize hs0.length = nn at *
   have HLL := Lib.hid hLl
   have HEL := Lib.hid hEl
   clear ho hvo hLl hcnt hz hfl hE hEl hcnt2 hs9 hv9 hn9
   have k1 : ((nn : Int) != (nn : Int)) = false := by rw [bne_self_eq_false]
   have k2 : decide ((nn : Int) < 0) = false := decide_eq_false (by omega)
   have k3 : ((nn : Int) == (nn : Int)) = true := by simp
   go_wp2_with (first
    | (go_at_call 17; (with_reducible refine (H1.out _).mono ?_); rintro e w2 ⟨rfl, hb2⟩; have HB2 := Lib.hid (up_trans HB1.out hb2); clear hb2)
    | (go_at_call 16; (with_reducible refine (H2.out _).mono ?_); rintro e w3 ⟨rfl, hb3⟩; have HB3 := Lib.hid (up_trans HB2.out hb3); clear hb3)
    | (go_at_call 30; (with_reducible refine (H3.out _).mono ?_); rintro e w4 ⟨hb4, g4, c4, rfl, ho4⟩; have HB4 := Lib.hid (up_trans HB3.out hb4); have HO4 := Lib.hid ho4; clear hb4 ho4)
    | (go_at_call 19; (with_reducible refine (H4.out _).mono ?_); rintro e w5 ⟨hb5, g5, c5, rfl, ho5⟩; have HB5 := Lib.hid (up_trans HB4.out hb5); have HO5 := Lib.hid ho5; have HL5 := Lib.hid (HO4.out.up hb5); clear hb5 ho5))
   go_loopg [12] nn (fun mm v12 wr => ∃ i : Nat, v12 = .int .i64 i /\ Hid (mm + i = nn) /\ Hid (Below w5.heap.size w5 wr))
   case atStart => exact ⟨0, rfl, rfl, Below.refl _ _⟩
   case round =>
    obtain ⟨i, rfl, HI, HBR⟩ := hrel
    have hi := HI.out
    cases gk with
    | zero =>
     have h1 : decide (i < nn) = false := decide_eq_false (by omega)
     have h2 : decide ((i : Int) < (nn : Int)) = false := decide_eq_false (by omega)
     clear HI hi
     go_wp2
     go_ret
     exact ⟨rfl, up_trans HB5.out HBR.out⟩
    | succ m' =>
     have h1 : decide (i < nn) = true := decide_eq_true (by omega)
     have h2 : decide ((i : Int) < (nn : Int)) = true := decide_eq_true (by omega)
     have hin : i < nn := by omega
     have hii : i < E.length := by rw [HEL.out]; exact hin
     obtain ⟨e, he⟩ : ∃ e, E[i]? = some e := ⟨_, List.getElem?_eq_getElem hii⟩
     have hef := HEI.out i e he
     have HCE := Lib.hid (HCN.out e)
     have HK2 : Hid (m' + (i + 1) = nn) := by show _ = _; omega
     clear HI hi hii he
     go_wp2
     go_loopg [13, 14, 15] nn (fun mk v13 v14 v15 wi => ∃ k : Nat, v13 = .int .i64 ((cnt L e k : Nat) : Int) /\ v14 = .int .i64 ((cnt E e k : Nat) : Int) /\ v15 = .int .i64 k /\ Hid (mk + k = nn) /\ Hid (Below w5.heap.size w5 wi))
     case atStart => exact ⟨0, rfl, rfl, rfl, rfl, HBR.out⟩
     case round =>
      obtain ⟨k, rfl, rfl, rfl, HK, HBI⟩ := hrel
      have hk := HK.out
      cases gk with
      | zero =>
       have h3 : decide (k < nn) = false := decide_eq_false (by omega)
       have h4 : decide ((k : Int) < (nn : Int)) = false := decide_eq_false (by omega)
       obtain rfl : k = nn := by omega
       rw [HCE.out]
       generalize cnt E e k = z at *
       have hz : ((z : Int) != (z : Int)) = false := by rw [bne_self_eq_false]
       clear HK hk
       go_wp2
       go_roundg m'
       case measure => omega
       case rel => exact ⟨i + 1, rfl, HK2, HBI.out⟩
      | succ m2 =>
       have h3 : decide (k < nn) = true := decide_eq_true (by omega)
       have h4 : decide ((k : Int) < (nn : Int)) = true := decide_eq_true (by omega)
       have hkn : k < nn := by omega
       have hkl : k < L.length := by rw [HLL.out]; exact hkn
       have hke : k < E.length := by rw [HEL.out]; exact hkn
       obtain ⟨x, hx⟩ : ∃ x, L[k]? = some x := ⟨_, List.getElem?_eq_getElem hkl⟩
       obtain ⟨y, hy⟩ : ∃ y, E[k]? = some y := ⟨_, List.getElem?_eq_getElem hke⟩
       have d1 := (HL5.out.up HBI.out).cell k x hx
       have d2 := (HO5.out.up HBI.out).cell _ y (HEI.out k y hy)
       have d3 := (HO5.out.up HBI.out).cell _ e hef
       have lg4 := World.block_lt_of_cell? wr _ d1
       have lg5 := World.block_lt_of_cell? wr _ d3
       have HK3 : Hid (m2 + (k + 1) = nn) := by show _ = _; omega
       have hk2 : k <= 200 := by omega
       clear HK hkl hke
       by_cases hxe : x = e
       · by_cases hye : y = e
         · skip
           have q1 : (x == e) = true := by rw [hxe]; simp
           have q2 : (y == e) = true := by rw [hye]; simp
           have c1 : cnt L e (k + 1) = cnt L e k + 1 := cnt_yes (hxe ▸ hx)
           have c2 : cnt E e (k + 1) = cnt E e k + 1 := cnt_yes (hye ▸ hy)
           have l1 := cnt_le L e k
           have l2 := cnt_le E e k
           have C1 := Lib.hid c1
           have C2 := Lib.hid c2
           generalize cnt L e k = ca at *
           generalize cnt E e k = cb at *
           have hca : ca <= 1000 := by omega
           have hcb : cb <= 1000 := by omega
           clear hx hy hxe hye c1 c2 l1 l2 hk HK2 hk2
           go_wp2
           go_region
           go_wp2
           go_region
           go_wp2
           go_roundg m2
           case measure => omega
           case rel => exact ⟨k + 1, by first | (rw [C1.out]; done) | (rw [C1.out]; rfl) | (rw [C1.out]; simp), by first | (rw [C2.out]; done) | (rw [C2.out]; rfl) | (rw [C2.out]; simp), rfl, HK3, up_drew (up_drew HBI.out)⟩
         · skip
           have q1 : (x == e) = true := by rw [hxe]; simp
           have q2 : (y == e) = false := St_ne hye
           have c1 : cnt L e (k + 1) = cnt L e k + 1 := cnt_yes (hxe ▸ hx)
           have c2 : cnt E e (k + 1) = cnt E e k := cnt_no hy hye
           have l1 := cnt_le L e k
           have l2 := cnt_le E e k
           have C1 := Lib.hid c1
           have C2 := Lib.hid c2
           generalize cnt L e k = ca at *
           generalize cnt E e k = cb at *
           have hca : ca <= 1000 := by omega
           have hcb : cb <= 1000 := by omega
           clear hx hy hxe hye c1 c2 l1 l2 hk HK2 hk2
           go_wp2
           go_region
           go_wp2
           go_region
           go_wp2
           go_roundg m2
           case measure => omega
           case rel => exact ⟨k + 1, by first | (rw [C1.out]; done) | (rw [C1.out]; rfl) | (rw [C1.out]; simp), by first | (rw [C2.out]; done) | (rw [C2.out]; rfl) | (rw [C2.out]; simp), rfl, HK3, up_drew (up_drew HBI.out)⟩
       · by_cases hye : y = e
         · skip
           have q1 : (x == e) = false := St_ne hxe
           have q2 : (y == e) = true := by rw [hye]; simp
           have c1 : cnt L e (k + 1) = cnt L e k := cnt_no hx hxe
           have c2 : cnt E e (k + 1) = cnt E e k + 1 := cnt_yes (hye ▸ hy)
           have l1 := cnt_le L e k
           have l2 := cnt_le E e k
           have C1 := Lib.hid c1
           have C2 := Lib.hid c2
           generalize cnt L e k = ca at *
           generalize cnt E e k = cb at *
           have hca : ca <= 1000 := by omega
           have hcb : cb <= 1000 := by omega
           clear hx hy hxe hye c1 c2 l1 l2 hk HK2 hk2
           go_wp2
           go_region
           go_wp2
           go_region
           go_wp2
           go_roundg m2
           case measure => omega
           case rel => exact ⟨k + 1, by first | (rw [C1.out]; done) | (rw [C1.out]; rfl) | (rw [C1.out]; simp), by first | (rw [C2.out]; done) | (rw [C2.out]; rfl) | (rw [C2.out]; simp), rfl, HK3, up_drew (up_drew HBI.out)⟩
         · skip
           have q1 : (x == e) = false := St_ne hxe
           have q2 : (y == e) = false := St_ne hye
           have c1 : cnt L e (k + 1) = cnt L e k := cnt_no hx hxe
           have c2 : cnt E e (k + 1) = cnt E e k := cnt_no hy hye
           have l1 := cnt_le L e k
           have l2 := cnt_le E e k
           have C1 := Lib.hid c1
           have C2 := Lib.hid c2
           generalize cnt L e k = ca at *
           generalize cnt E e k = cb at *
           have hca : ca <= 1000 := by omega
           have hcb : cb <= 1000 := by omega
           clear hx hy hxe hye c1 c2 l1 l2 hk HK2 hk2
           go_wp2
           go_region
           go_wp2
           go_region
           go_wp2
           go_roundg m2
           case measure => omega
           case rel => exact ⟨k + 1, by first | (rw [C1.out]; done) | (rw [C1.out]; rfl) | (rw [C1.out]; simp), by first | (rw [C2.out]; done) | (rw [C2.out]; rfl) | (rw [C2.out]; simp), rfl, HK3, up_drew (up_drew HBI.out)⟩
end Go.Proofs.YtpokompplapkhaaGreatDoor

