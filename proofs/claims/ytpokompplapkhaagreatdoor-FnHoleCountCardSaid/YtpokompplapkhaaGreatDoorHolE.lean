/- The program's HolesOf, HoleCount. -/
import Derived.Test.YtpokompplapkhaaGreatDoorHolT
import Derived.Test.YtpokompplapkhaaGreatDoorHolD0
import Derived.Test.YtpokompplapkhaaGreatDoorTxI
import Derived.Test.YtpokompplapkhaaGreatDoorHolM
import Derived.Test.YtpokompplapkhaaGreatDoorTk
namespace Go.Proofs.YtpokompplapkhaaGreatDoor
set_option maxHeartbeats 8000000
set_option maxRecDepth 100000
open Go.RowKit
set_option linter.unusedVariables false
set_option linter.unusedSimpArgs false
def fl : List (V × V) -> List (List UInt8)
 | [] => []
 | h :: hs => h.1.toTr.txt :: h.2.toTr.txt :: fl hs
theorem fl_app : ∀ (a b : List (V × V)), fl (a ++ b) = fl a ++ fl b
 | [], b => rfl
 | h :: a, b => by simp only [List.cons_append, fl, fl_app a b]
theorem fl_len : ∀ (a : List (V × V)), (fl a).length = a.length * 2
 | [] => rfl
 | h :: a => by simp only [fl, List.length_cons, fl_len a]; omega
theorem fl_take {hs : List (V × V)} {i : Nat} {hh : V × V} (h : hs[i]? = some hh) : fl (hs.take (i + 1)) = fl (hs.take i) ++ [hh.1.toTr.txt, hh.2.toTr.txt] := by
 rw [List.take_add_one, h, fl_app]
 rfl
theorem fl_get : ∀ (hs : List (V × V)) (i : Nat) (h : V × V), hs[i]? = some h -> (fl hs)[2 * i]? = some h.1.toTr.txt /\ (fl hs)[2 * i + 1]? = some h.2.toTr.txt
 | [], i, h, hi => by simp at hi
 | k :: hs, 0, h, hi => by
  simp only [List.getElem?_cons_zero, Option.some.injEq] at hi
  subst hi
  exact ⟨rfl, rfl⟩
 | k :: hs, i + 1, h, hi => by
  have := fl_get hs i h (by simpa using hi)
  rw [show 2 * (i + 1) = 2 * i + 1 + 1 by omega, show 2 * i + 1 + 1 + 1 = (2 * i + 1) + 1 + 1 by omega]
  simpa [fl] using this
def HsOk (hs : List (V × V)) : Prop := ∀ h ∈ hs, h.1.ok /\ h.2.ok /\ h.1.nodes <= 100000 /\ h.2.nodes <= 100000
def HTPost (w : World) (o : Option (List (V × V))) (e : Ending) (w' : World) : Prop :=
 Below w.heap.size w w' /\ match o with
  | none => ∃ A c, e = .returned (.tuple #[.slice A 0 c, .bool false])
  | some hs => ∃ g c, e = .returned (.tuple #[.slice (some ⟨g, 0, none⟩) hs.length c, .bool true]) /\ POwn w' w.heap.size (fl hs) g hs.length c
def hcB (l nm v : List UInt8) : Int := match holB l nm v with
 | none => -1
 | some hs => hs.length
theorem holB_ok {l nm v : List UInt8} {hs : List (V × V)} (h : holB l nm v = some hs) : HsOk hs /\ hs.length <= 200 := by
 obtain ⟨N, x, ho, hp, rfl⟩ := holB_some h
 obtain ⟨hc, hr, _, _, hty⟩ := valsOf_some ho
 obtain ⟨hvt, hok, hnd⟩ := rdVal_tr hr
 refine ⟨fun p hm => ?_, by have := hol_len (N.db []) (.nm nm) x; omega⟩
 obtain ⟨h1, h2⟩ := hol_ok hok hm
 have h3 := hol_ctx hm
 have h4 := hol_size hm
 exact ⟨h1, h2, by omega, by omega⟩
theorem Tryz.infoHoleT : (Tryz.prog.info? 42).map (fun i => (i.zero, i.size, i.bytes)) = some (some (.agg #[.string ⟨#[]⟩, .string ⟨#[]⟩]), 2, 32) := by kernel_rfl
theorem holeTexts_any (hs : List (V × V)) (A : Option Addr) (c : Nat) (us : List Value) (w : World) (hr : RCells w A us) (hl : HL w hs us) (hok : HsOk hs) (hn : hs.length <= 100000) :
 Calls Tryz.prog 58 #[.slice A hs.length c] w fun e w' => Below w.heap.size w w' /\ ∃ g c', e = .returned (.slice (some ⟨g, 0, none⟩) hs.length c') /\ POwn w' w.heap.size (fl hs) g hs.length c' := by
 obtain ⟨i0, hi0, hz0, hz1, hz2⟩ := info_parts Tryz.infoHoleT
 have HR := Lib.hid hr
 have H2 := Lib.hid hl
 have HOK := Lib.hid hok
 clear hr hl hok
 generalize hL : hs.length = n at *
 have HL2 := Lib.hid hL
 clear hL
 go_enter Tryz.func58, Tryz.ntmps58
 go_wp2
 go_loopg [3, 9] n (fun m v3 v9 wr => ∃ (i gr cr : Nat), v9 = .int .i64 i /\ v3 = .slice (some ⟨gr, 0, none⟩) i cr /\ Hid (m + i = n) /\ Hid (POwn wr w.heap.size (fl (hs.take i)) gr i cr /\ Below w.heap.size w wr))
 case atStart => exact ⟨0, w.heap.size, 0, rfl, rfl, rfl, own_nils w _ 2 (Nat.le_refl _) (by decide) _, up1 w _⟩
 case round =>
  obtain ⟨i, gr, cr, rfl, rfl, HM, HB⟩ := hrel
  have hm := HM.out
  cases gk with
  | zero =>
   have h1 : decide (i < n) = false := decide_eq_false (by omega)
   obtain rfl : i = n := by omega
   have HP := HB.out
   rw [List.take_of_length_le (by rw [HL2.out]; omega)] at HP
   have HP := Lib.hid HP
   clear HM hm HB
   go_wp2
   go_ret
   exact ⟨HP.out.2, _, _, rfl, HP.out.1⟩
  | succ m =>
   have h1 : decide (i < n) = true := decide_eq_true (by omega)
   have hin : i < n := by omega
   obtain ⟨hous, hbl⟩ := HB.out
   have HBL := Lib.hid hbl
   obtain ⟨hh, hih⟩ : ∃ hh, hs[i]? = some hh := ⟨_, List.getElem?_eq_getElem (by rw [HL2.out]; exact hin)⟩
   obtain ⟨ok1, ok2, nd1, nd2⟩ := HOK.out hh (List.mem_of_getElem? hih)
   obtain ⟨p, q, u1, u2, hp, hq⟩ := (H2.out.keep (.up hbl)).get i hh hih
   obtain ⟨gl, ol, rfl, hc⟩ : ∃ gl ol, A = some ⟨gl, ol, none⟩ /\ ∀ j u, us[j]? = some u -> wr.cell? ⟨gl, ol + j, none⟩ = some u := by
    rcases HR.out.up hbl with h | ⟨gl, ol, h, h'⟩
    · rw [h] at u1; simp at u1
    · exact ⟨gl, ol, h, h'⟩
   have d1 := hc _ _ u1
   have d2 := hc _ _ u2
   rw [Nat.mul_comm 2 i] at d1 d2
   have d3 : wr.cell? ⟨gl, ol + i * 2 + 1, none⟩ = some (.pointer q) := by rw [Nat.add_assoc]; exact d2
   have HO : Hid (∀ w2, Below wr.heap.size wr w2 -> w2.ownsRow w.heap.size 42 2 (.slice (some ⟨gr, 0, none⟩) i cr) i (strs (fl (hs.take i)))) := fun w2 h => own_up hous h
   have HSZ : Hid (∀ w2, Below wr.heap.size wr w2 -> w.heap.size <= w2.heap.size) := fun w2 h => Nat.le_trans HBL.out.size h.size
   have hgr := World.ownsRow.lt hous gr rfl
   have HAF : Hid (∀ w3 w4, Below wr.heap.size wr w3 -> w3.grownBy w4 (some gr) -> Hid (∀ k, k < w3.heap.size -> k ≠ gr -> w4.heap[k]? = w3.heap[k]?)) := fun w3 w4 hb hg => fun k hk hne => hg.block k hk (by simpa using hne)
   have HFIN : Hid (∀ w3 w4 g2 c2, Below wr.heap.size wr w3 -> w3.grownBy w4 (some gr) -> Below w.heap.size w3 w4 -> w4.ownsRow w.heap.size 42 2 (.slice (some ⟨g2, 0, none⟩) (i + 1) c2) (i + 1) (strs (fl (hs.take i)) ++ [.string (St hh.1.toTr.txt), .string (St hh.2.toTr.txt)]) -> Hid (POwn w4 w.heap.size (fl (hs.take (i + 1))) g2 (i + 1) c2 /\ Below w.heap.size w w4)) := fun w3 w4 g2 c2 hb hg hbl ho => by
    refine ⟨?_, Below.trans (up_trans HBL.out hb) hbl⟩
    unfold POwn
    rw [fl_take hih]
    simpa [strs] using ho
   have HTA : Hid (∀ w2, Below wr.heap.size wr w2 -> Calls Tryz.prog 90 #[.pointer p] w2 fun e w' => e = .returned (.string (St hh.1.toTr.txt)) /\ Below w2.heap.size w2 w') := fun w2 h => text_any hh.1 ok1 (by omega) w2 p (hp.up h)
   have HTB : Hid (∀ w2, Below wr.heap.size wr w2 -> Calls Tryz.prog 90 #[.pointer q] w2 fun e w' => e = .returned (.string (St hh.2.toTr.txt)) /\ Below w2.heap.size w2 w') := fun w2 h => text_any hh.2 ok2 (by omega) w2 q (hq.up h)
   go_wp2
   have BW := up1 wr (.cells #[.pointer p, .pointer q] 134)
   have CW := block_new wr (.cells #[.pointer p, .pointer q] 134)
   generalize (wr.alloc (.cells #[.pointer p, .pointer q] 134)) = W1 at *
   have HBW := Lib.hid BW
   have HS : Hid (∀ w', Below W1.heap.size W1 w' -> w'.cell? ⟨wr.heap.size, 0, none⟩ = some (.pointer p) /\ w'.cell? ⟨wr.heap.size, 1, none⟩ = some (.pointer q)) := fun w' h => ⟨block_cell (block_up h CW) 0, block_cell (block_up h CW) 1⟩
   have HS9 : Hid (∀ w3 w' : World, Below W1.heap.size W1 w3 -> Hid (∀ k, k < w3.heap.size -> k ≠ gr -> w'.heap[k]? = w3.heap[k]?) -> w'.cell? ⟨wr.heap.size, 0, none⟩ = some (.pointer p) /\ w'.cell? ⟨wr.heap.size, 1, none⟩ = some (.pointer q)) := fun w3 w' hb h => by
    have k1 := block_up hb CW
    have k2 := (h.out _ (lt_of_block k1) (by omega)).trans k1
    exact ⟨block_cell k2 0, block_cell k2 1⟩
   have HT1 := Lib.hid fun w2 (h : Below W1.heap.size W1 w2) => HTA.out w2 (up_trans HBW.out h)
   have HT2 := Lib.hid fun w2 (h : Below W1.heap.size W1 w2) => HTB.out w2 (up_trans HBW.out h)
   obtain ⟨s0, s1⟩ := HS.out W1 (Below.refl _ _)
   clear hous hbl hih ok1 ok2 nd1 nd2 hp hq hc u1 u2 d1 d2 d3 hgr BW CW HM HB
   refine wp_region_noPanic ?_
   refine wp_region_held_drew (S := (fun w' => w'.cell? ⟨wr.heap.size, 0, none⟩ = some (.pointer p) /\ w'.cell? ⟨wr.heap.size, 1, none⟩ = some (.pointer q))) (by kernel_rfl) (by exact HS.out _ (up_drew (Below.refl _ _))) (fun hHeld => ?_)
   refine tq 0 rfl ?_
   refine tq 1 rfl ?_
   refine tq 2 rfl ?_
   refine tq 4 rfl ?_
   refine tq 5 rfl ?_
   refine tz 3 rfl fun K hK => ?_
   go_simp
   go_at_call 90
   (with_reducible refine (HT1.out _ (up_drew (Below.refl _ _))).mono ?_)
   rintro e w5 ⟨rfl, hb5⟩
   have HB5 : Hid (Below W1.heap.size W1 w5) := up_trans (up_drew (Below.refl _ _)) hb5
   clear hb5
   refine hK.out _ _ (by exact HS.out _ HB5.out) (fun hHeld => ?_)
   clear hK
   try simp only [Act.put, zA, zB, zC, zD, zE, zF]
   refine tz 6 rfl fun K hK => ?_
   go_simp
   go_at_call 90
   (with_reducible refine (HT2.out _ HB5.out).mono ?_)
   rintro e w6 ⟨rfl, hb6⟩
   have HB6 : Hid (Below W1.heap.size W1 w6) := up_trans HB5.out hb6
   clear hb6
   refine hK.out _ _ (by exact HS.out _ HB6.out) (fun hHeld => ?_)
   clear hK
   try simp only [Act.put, zA, zB, zC, zD, zE, zF]
   refine tq 7 rfl ?_
   refine tz 8 rfl fun K hK => ?_
   go_simp
   refine hK.out _ _ (by exact HS.out _ (up_trans HB6.out (up1 _ _))) (fun hHeld => ?_)
   clear hK
   try simp only [Act.put, zA, zB, zC, zD, zE, zF]
   refine tz 9 rfl fun K hK => ?_
   refine step_append_rows _ rfl _ _ 24 rfl w.heap.size 2 42 i0 (.agg #[.string ⟨#[]⟩, .string ⟨#[]⟩]) 32 Tryz.underlying24 hi0 hz0 hz1 hz2 rfl (by decide) gr i cr (strs (fl (hs.take i))) rfl (HO.out _ (up_trans (up_trans HBW.out HB6.out) (up1 _ _))) (some ⟨_, 0, none⟩) 1 1 [.string (St hh.1.toTr.txt), .string (St hh.2.toTr.txt)] rfl rfl (row_two (block_new w6 _)) (by simp [Value.oneCell']) (by omega) (by decide) (HSZ.out _ (up_trans (up_trans HBW.out HB6.out) (up1 _ _))) (i + 1) rfl (strs (fl (hs.take i)) ++ [.string (St hh.1.toTr.txt), .string (St hh.2.toTr.txt)]) rfl ?_
   intro gn cn w9 hown hgrow hbel hat
   have HK9 := HAF.out _ w9 (up_trans (up_trans HBW.out HB6.out) (up1 _ _)) hgrow
   have HFF := HFIN.out _ w9 gn cn (up_trans (up_trans HBW.out HB6.out) (up1 _ _)) hgrow hbel hown
   clear hown hgrow hbel hat
   refine hK.out _ _ (by exact HS9.out _ _ (up_trans HB6.out (up1 _ _)) HK9) (fun hHeld => ?_)
   clear hK
   try simp only [Act.put, zA, zB, zC, zD, zE, zF]
   refine tq 10 rfl ?_
   refine wpAnyH_done (by kernel_rfl) ?_ _
   refine NoPanic.normal ?_
   go_wp2
   go_roundg m
   case measure => omega
   case rel => exact ⟨i + 1, gn, cn, rfl, rfl, by show m + (i + 1) = n; omega, HFF.out⟩
theorem HolesOf_any (s nm v : ByteArray) (w : World) (hs : s.size <= 9223372036854775807) (hv : v.size <= 9223372036854775807) (hn : nm.size <= 9223372036854775807) :
 Calls Tryz.prog 19 #[.string s, .string nm, .string v] w (HTPost w (holB s.data.toList nm.data.toList v.data.toList)) := by
 have H := valueOf_any s v 100 w hs hv
 have HP := Lib.hid fun w1 => isParameter_any nm w1 hn
 have hokB := fun hs h => holB_ok (l := s.data.toList) (nm := nm.data.toList) (v := v.data.toList) (hs := hs) h
 have HNONE : Hid (∀ w', Below w.heap.size w w' -> HTPost w none (.returned (.tuple #[.slice none 0 0, .bool false])) w') := fun w' hb => ⟨hb, _, _, rfl⟩
 clear hs hv hn
 cases ho : valsOf s.data.toList v.data.toList 100 with
 | none =>
  rw [ho] at H
  have HV : Hid (Calls Tryz.prog 51 #[.string s, .string v, .int .i64 100] w fun e w' => Below w.heap.size w w' /\ ∃ p, e = .returned (.tuple #[.pointer p, .pointer none])) := H
  have hz : holB s.data.toList nm.data.toList v.data.toList = none := by unfold holB; rw [ho]
  rw [hz]; generalize HTPost w none = Q at *
  clear H hokB ho hz
  go_enter Tryz.func19, Tryz.ntmps19
  go_wp2_with (go_at_call 51; refine HV.out.mono ?_; rintro e w1 ⟨hb1, p1, rfl⟩; have HB1 := Lib.hid hb1; clear hb1)
  exact HNONE.out _ HB1.out
 | some q =>
  obtain ⟨N, x⟩ := q
  obtain ⟨hc, hr, _, _, hty⟩ := valsOf_some ho
  have hnd := rdVal_nodes hr
  obtain ⟨_, hNo, hNa, _⟩ := clTy_some hc
  rw [ho] at H
  have HV : Hid (Calls Tryz.prog 51 #[.string s, .string v, .int .i64 100] w fun e w' => Below w.heap.size w w' /\ ∃ g q, e = .returned (.tuple #[.pointer (some ⟨g, 0, none⟩), .pointer (some ⟨q, 0, none⟩)]) /\ TyAt w' (N.db []) (some ⟨g, 0, none⟩) /\ VAt w' x (some ⟨q, 0, none⟩)) := H
  cases hp : paramB nm.data.toList with
  | false =>
   rw [hp] at HP
   have hz : holB s.data.toList nm.data.toList v.data.toList = none := by unfold holB; rw [ho]; simp [hp]
   rw [hz]; generalize HTPost w none = Q at *
   clear H hokB ho hz hc hr hty hnd hNo hNa hp
   go_enter Tryz.func19, Tryz.ntmps19
   go_wp2_with (first
    | (go_at_call 51; refine HV.out.mono ?_; rintro e w1 ⟨hb1, g1, q1, rfl, _, _⟩; have HB1 := Lib.hid hb1; clear hb1)
    | (go_at_call 52; refine (HP.out _).mono ?_; rintro e w2 ⟨rfl, hb2⟩; have HB2 := Lib.hid (up_trans HB1.out hb2); clear hb2))
   exact HNONE.out _ HB2.out
  | true =>
   rw [hp] at HP
   have hz : holB s.data.toList nm.data.toList v.data.toList = some (hol (N.db []) (.nm nm.data.toList) x) := by unfold holB; rw [ho]; simp [hp]
   obtain ⟨hok, hl⟩ := hokB _ hz
   have HH : Hid (∀ w1 p q, TyAt w1 (N.db []) p -> VAt w1 x q -> Calls Tryz.prog 53 #[.agg #[.pointer p, .pointer none], .pointer q, .agg #[.string nm, .pointer none]] w1 (HPost w1 (hol (N.db []) (.nm nm.data.toList) x))) := fun w1 p q h1 h2 => hol_any _ x (Nat.le_refl _) (N.db []) [] w1 p none q (.nm nm.data.toList) nm.data.toList none h1 rfl h2 (db_scoped N []) (scoped_bs _ 0 (db_scoped N []) (by rw [NT.db_atoms]; omega)) (by simp) rfl hty (by omega)
   have HTX : Hid (∀ w1 A c us, RCells w1 A us -> HL w1 (hol (N.db []) (.nm nm.data.toList) x) us -> Calls Tryz.prog 58 #[.slice A (hol (N.db []) (.nm nm.data.toList) x).length c] w1 fun e w' => Below w1.heap.size w1 w' /\ ∃ g c', e = .returned (.slice (some ⟨g, 0, none⟩) (hol (N.db []) (.nm nm.data.toList) x).length c') /\ POwn w' w1.heap.size (fl (hol (N.db []) (.nm nm.data.toList) x)) g (hol (N.db []) (.nm nm.data.toList) x).length c') := fun w1 A c us h1 h2 => holeTexts_any _ A c us w1 h1 h2 hok (by omega)
   rw [hz]
   generalize hol (N.db []) (.nm nm.data.toList) x = out at *
   have HQ : Hid (∀ w1 w' g c, Below w.heap.size w w1 -> Below w1.heap.size w1 w' -> POwn w' w1.heap.size (fl out) g out.length c -> HTPost w (some out) (.returned (.tuple #[.slice (some ⟨g, 0, none⟩) out.length c, .bool true])) w') := fun w1 w' g c h1 h2 h3 => ⟨up_trans h1 h2, g, c, rfl, World.ownsRow.mono h3 h1.size⟩
   generalize HTPost w (some out) = Q at *
   clear H hokB ho hz hc hr hty hnd hNo hNa hp
   go_enter Tryz.func19, Tryz.ntmps19
   go_wp2_with (first
    | (go_at_call 51; refine HV.out.mono ?_; rintro e w1 ⟨hb1, g1, q1, rfl, ht1, hv1⟩; have HB1 := Lib.hid hb1; have HT1 := Lib.hid ht1; have HV1 := Lib.hid hv1; clear hb1 ht1 hv1)
    | (go_at_call 52; refine (HP.out _).mono ?_; rintro e w2 ⟨rfl, hb2⟩; have HB2 := Lib.hid (up_trans HB1.out hb2); have HT2 := Lib.hid (HT1.out.up hb2); have HV2 := Lib.hid (HV1.out.up hb2); clear hb2)
    | (go_at_call 53; (with_reducible refine (HH.out _ _ _ HT2.out HV2.out).mono ?_); rintro e w3 ⟨hb3, g3, c3, us3, rfl, _, _, hr3, hl3⟩; have HB3 := Lib.hid (up_trans HB2.out hb3); have HR3 := Lib.hid hr3; have HL3 := Lib.hid hl3; clear hb3 hr3 hl3)
    | (go_at_call 58; (with_reducible refine (HTX.out _ _ _ _ HR3.out HL3.out).mono ?_); rintro e w4 ⟨hb4, g4, c4, rfl, ho4⟩; have HB4 := Lib.hid hb4; have HO4 := Lib.hid ho4; clear hb4 ho4))
   exact HQ.out _ _ _ _ HB3.out HB4.out HO4.out
theorem HoleCount_any (s nm v : ByteArray) (w : World) (hs : s.size <= 9223372036854775807) (hv : v.size <= 9223372036854775807) (hn : nm.size <= 9223372036854775807) :
 Calls Tryz.prog 17 #[.string s, .string nm, .string v] w (fun e w' => e = .returned (.int .i64 (hcB s.data.toList nm.data.toList v.data.toList)) /\ Below w.heap.size w w') := by
 have H := valueOf_any s v 100 w hs hv
 have HP := Lib.hid fun w1 => isParameter_any nm w1 hn
 have hokB := fun hs h => holB_ok (l := s.data.toList) (nm := nm.data.toList) (v := v.data.toList) (hs := hs) h
 unfold hcB
 clear hs hv hn
 cases ho : valsOf s.data.toList v.data.toList 100 with
 | none =>
  rw [ho] at H
  have HV : Hid (Calls Tryz.prog 51 #[.string s, .string v, .int .i64 100] w fun e w' => Below w.heap.size w w' /\ ∃ p, e = .returned (.tuple #[.pointer p, .pointer none])) := H
  have hz : holB s.data.toList nm.data.toList v.data.toList = none := by unfold holB; rw [ho]
  rw [hz]; show Calls _ _ _ _ (fun e w' => e = .returned (.int .i64 (-1)) /\ Below w.heap.size w w')
  clear H hokB ho hz
  go_enter Tryz.func17, Tryz.ntmps17
  go_wp2_with (go_at_call 51; refine HV.out.mono ?_; rintro e w1 ⟨hb1, p1, rfl⟩; have HB1 := Lib.hid hb1; clear hb1)
  go_ret; exact ⟨rfl, HB1.out⟩
 | some q =>
  obtain ⟨N, x⟩ := q
  obtain ⟨hc, hr, _, _, hty⟩ := valsOf_some ho
  have hnd := rdVal_nodes hr
  obtain ⟨_, hNo, hNa, _⟩ := clTy_some hc
  rw [ho] at H
  have HV : Hid (Calls Tryz.prog 51 #[.string s, .string v, .int .i64 100] w fun e w' => Below w.heap.size w w' /\ ∃ g q, e = .returned (.tuple #[.pointer (some ⟨g, 0, none⟩), .pointer (some ⟨q, 0, none⟩)]) /\ TyAt w' (N.db []) (some ⟨g, 0, none⟩) /\ VAt w' x (some ⟨q, 0, none⟩)) := H
  cases hp : paramB nm.data.toList with
  | false =>
   rw [hp] at HP
   have hz : holB s.data.toList nm.data.toList v.data.toList = none := by unfold holB; rw [ho]; simp [hp]
   rw [hz]; show Calls _ _ _ _ (fun e w' => e = .returned (.int .i64 (-1)) /\ Below w.heap.size w w')
   clear H hokB ho hz hc hr hty hnd hNo hNa hp
   go_enter Tryz.func17, Tryz.ntmps17
   go_wp2_with (first
    | (go_at_call 51; refine HV.out.mono ?_; rintro e w1 ⟨hb1, g1, q1, rfl, _, _⟩; have HB1 := Lib.hid hb1; clear hb1)
    | (go_at_call 52; refine (HP.out _).mono ?_; rintro e w2 ⟨rfl, hb2⟩; have HB2 := Lib.hid (up_trans HB1.out hb2); clear hb2))
   go_ret; exact ⟨rfl, HB2.out⟩
  | true =>
   rw [hp] at HP
   have hz : holB s.data.toList nm.data.toList v.data.toList = some (hol (N.db []) (.nm nm.data.toList) x) := by unfold holB; rw [ho]; simp [hp]
   obtain ⟨hok, hl⟩ := hokB _ hz
   have HH : Hid (∀ w1 p q, TyAt w1 (N.db []) p -> VAt w1 x q -> Calls Tryz.prog 53 #[.agg #[.pointer p, .pointer none], .pointer q, .agg #[.string nm, .pointer none]] w1 (HPost w1 (hol (N.db []) (.nm nm.data.toList) x))) := fun w1 p q h1 h2 => hol_any _ x (Nat.le_refl _) (N.db []) [] w1 p none q (.nm nm.data.toList) nm.data.toList none h1 rfl h2 (db_scoped N []) (scoped_bs _ 0 (db_scoped N []) (by rw [NT.db_atoms]; omega)) (by simp) rfl hty (by omega)
   rw [hz]
   show Calls _ _ _ _ (fun e w' => e = .returned (.int .i64 ((hol (N.db []) (.nm nm.data.toList) x).length : Nat)) /\ Below w.heap.size w w')
   generalize hol (N.db []) (.nm nm.data.toList) x = out at *
   clear H hokB ho hz hc hr hty hnd hNo hNa hp
   go_enter Tryz.func17, Tryz.ntmps17
   go_wp2_with (first
    | (go_at_call 51; refine HV.out.mono ?_; rintro e w1 ⟨hb1, g1, q1, rfl, ht1, hv1⟩; have HB1 := Lib.hid hb1; have HT1 := Lib.hid ht1; have HV1 := Lib.hid hv1; clear hb1 ht1 hv1)
    | (go_at_call 52; refine (HP.out _).mono ?_; rintro e w2 ⟨rfl, hb2⟩; have HB2 := Lib.hid (up_trans HB1.out hb2); have HT2 := Lib.hid (HT1.out.up hb2); have HV2 := Lib.hid (HV1.out.up hb2); clear hb2)
    | (go_at_call 53; (with_reducible refine (HH.out _ _ _ HT2.out HV2.out).mono ?_); rintro e w3 ⟨hb3, g3, c3, us3, rfl, _, _, hr3, hl3⟩; have HB3 := Lib.hid (up_trans HB2.out hb3); clear hb3 hr3 hl3))
   go_ret
   exact ⟨rfl, HB3.out⟩
end Go.Proofs.YtpokompplapkhaaGreatDoor

