/- The reference's HolesOf, HoleCount. -/
import Derived.Test.YtpokompplapkhaaGreatDoorHolE
import Derived.Test.YtpokompplapkhaaGreatDoorHolX
import Derived.Test.YtpokompplapkhaaGreatDoorMH
import Derived.Test.YtpokompplapkhaaGreatDoorVIs
import Derived.Test.YtpokompplapkhaaGreatDoorClT
import Derived.Test.YtpokompplapkhaaGreatDoorTk
namespace Go.Proofs.YtpokompplapkhaaGreatDoor
set_option maxHeartbeats 8000000
set_option maxRecDepth 100000
open Go.RowKit
set_option linter.unusedVariables false
set_option linter.unusedSimpArgs false
set_option linter.constructorNameAsVariable false
theorem l4Told_any (hs : List (V × V)) (A : Option Addr) (c : Nat) (us : List Value) (w : World) (hr : RCells w A us) (hl : TR w hs us) (hA : ∀ k o, A = some ⟨k, o, none⟩ -> k < w.heap.size) (hok : HsOk hs) (hn : hs.length <= 100000) :
 Calls Tryz.prog 56 #[.slice A hs.length c] w fun e w' => Below w.heap.size w w' /\ ∃ g c', e = .returned (.slice (some ⟨g, 0, none⟩) hs.length c') /\ POwn w' w.heap.size (fl hs) g hs.length c' := by
 obtain ⟨i0, hi0, hz0, hz1, hz2⟩ := info_parts Tryz.infoHoleT
 have HR := Lib.hid hr
 have H2 := Lib.hid hl
 have HOK := Lib.hid hok
 have HA := Lib.hid hA
 clear hr hl hok hA
 generalize hL : hs.length = n at *
 have HL2 := Lib.hid hL
 clear hL
 go_enter Tryz.func56, Tryz.ntmps56
 go_wp2
 go_loopg [3, 4] n (fun m v3 v9 wr => ∃ (i gr cr : Nat), v9 = .int .i64 i /\ v3 = .slice (some ⟨gr, 0, none⟩) i cr /\ Hid (m + i = n) /\ Hid (POwn wr w.heap.size (fl (hs.take i)) gr i cr /\ Below w.heap.size w wr))
 case atStart => exact ⟨0, w.heap.size, 0, rfl, rfl, rfl, own_nils w _ 2 (Nat.le_refl _) (by decide) _, up1 w _⟩
 case round =>
  obtain ⟨i, gr, cr, rfl, rfl, HM, HB⟩ := hrel
  have hm := HM.out
  cases gk with
  | zero =>
   have h1 : decide (i < n) = false := decide_eq_false (by omega)
   obtain rfl : i = n := by omega
   have HP := HB.out
   rw [List.take_of_length_le (by rw [HL2.out]; omega)] at HP
   have HP := Lib.hid HP
   clear HM hm HB
   go_wp2
   go_ret
   exact ⟨HP.out.2, _, _, rfl, HP.out.1⟩
  | succ m =>
   have h1 : decide (i < n) = true := decide_eq_true (by omega)
   have hin : i < n := by omega
   obtain ⟨hous, hbl⟩ := HB.out
   have HBL := Lib.hid hbl
   obtain ⟨hh, hih⟩ : ∃ hh, hs[i]? = some hh := ⟨_, List.getElem?_eq_getElem (by rw [HL2.out]; exact hin)⟩
   obtain ⟨ok1, ok2, nd1, nd2⟩ := HOK.out hh (List.mem_of_getElem? hih)
   obtain ⟨x0, x1, x2, x3, y0, y1, y2, y3, u1, u2, u3, u4, hx, hy⟩ := (H2.out.keep (.up hbl)).get i hh hih
   have hgA : ∀ k o, A = some ⟨k, o, none⟩ -> k < w.heap.size := HA.out
   obtain ⟨gl, ol, rfl, hc⟩ : ∃ gl ol, A = some ⟨gl, ol, none⟩ /\ ∀ j u, us[j]? = some u -> wr.cell? ⟨gl, ol + j, none⟩ = some u := by
    rcases HR.out.up hbl with h | ⟨gl, ol, h, h'⟩
    · rw [h] at u1; simp at u1
    · exact ⟨gl, ol, h, h'⟩
   have hgl := hgA gl ol rfl
   have d1 := hc _ _ u1
   have d2 := hc _ _ u2
   have d3 := hc _ _ u3
   have d4 := hc _ _ u4
   rw [Nat.mul_comm 4 i] at d1 d2 d3 d4
   rw [<- Nat.add_assoc] at d2 d3 d4
   have HO : Hid (∀ w2, Below wr.heap.size wr w2 -> w2.ownsRow w.heap.size 42 2 (.slice (some ⟨gr, 0, none⟩) i cr) i (strs (fl (hs.take i)))) := fun w2 h => own_up hous h
   have HSZ : Hid (∀ w2, Below wr.heap.size wr w2 -> w.heap.size <= w2.heap.size) := fun w2 h => Nat.le_trans HBL.out.size h.size
   have hgr := World.ownsRow.lt hous gr rfl
   have HAF : Hid (∀ w3 w4, Below wr.heap.size wr w3 -> w3.grownBy w4 (some gr) -> Hid (∀ k, k < w3.heap.size -> k ≠ gr -> w4.heap[k]? = w3.heap[k]?)) := fun w3 w4 hb hg => fun k hk hne => hg.block k hk (by simpa using hne)
   have HFIN : Hid (∀ w3 w4 g2 c2, Below wr.heap.size wr w3 -> w3.grownBy w4 (some gr) -> Below w.heap.size w3 w4 -> w4.ownsRow w.heap.size 42 2 (.slice (some ⟨g2, 0, none⟩) (i + 1) c2) (i + 1) (strs (fl (hs.take i)) ++ [.string (St hh.1.toTr.txt), .string (St hh.2.toTr.txt)]) -> Hid (POwn w4 w.heap.size (fl (hs.take (i + 1))) g2 (i + 1) c2 /\ Below w.heap.size w w4)) := fun w3 w4 g2 c2 hb hg hbl ho => by
    refine ⟨?_, Below.trans (up_trans HBL.out hb) hbl⟩
    unfold POwn
    rw [fl_take hih]
    simpa [strs] using ho
   have HTA : Hid (∀ w2, Below wr.heap.size wr w2 -> Calls Tryz.prog 65 #[.agg #[.string x0, .slice x1 x2 x3]] w2 fun e w' => e = .returned (.string (St hh.1.toTr.txt)) /\ Below w2.heap.size w2 w') := fun w2 h => l1Text_any _ _ (Nat.le_refl _) (V.wf ok1) (by have := V.len_nodes ok1; omega) _ w2 (hx.up h)
   have HTB : Hid (∀ w2, Below wr.heap.size wr w2 -> Calls Tryz.prog 65 #[.agg #[.string y0, .slice y1 y2 y3]] w2 fun e w' => e = .returned (.string (St hh.2.toTr.txt)) /\ Below w2.heap.size w2 w') := fun w2 h => l1Text_any _ _ (Nat.le_refl _) (V.wf ok2) (by have := V.len_nodes ok2; omega) _ w2 (hy.up h)
   have HS : Hid (∀ w', Below wr.heap.size wr w' -> w'.cell? ⟨gl, ol + i * 4, none⟩ = some (.string x0) /\ w'.cell? ⟨gl, ol + i * 4 + 1, none⟩ = some (.slice x1 x2 x3) /\ w'.cell? ⟨gl, ol + i * 4 + 2, none⟩ = some (.string y0) /\ w'.cell? ⟨gl, ol + i * 4 + 3, none⟩ = some (.slice y1 y2 y3)) := fun w' h => ⟨cell_up h d1, cell_up h d2, cell_up h d3, cell_up h d4⟩
   have HS9 : Hid (∀ w3 w' : World, Below wr.heap.size wr w3 -> Hid (∀ k, k < w3.heap.size -> k ≠ gr -> w'.heap[k]? = w3.heap[k]?) -> w'.cell? ⟨gl, ol + i * 4, none⟩ = some (.string x0) /\ w'.cell? ⟨gl, ol + i * 4 + 1, none⟩ = some (.slice x1 x2 x3) /\ w'.cell? ⟨gl, ol + i * 4 + 2, none⟩ = some (.string y0) /\ w'.cell? ⟨gl, ol + i * 4 + 3, none⟩ = some (.slice y1 y2 y3)) := fun w3 w' hb h => by
    have hlk : gl < wr.heap.size := World.block_lt_of_cell? wr _ d1
    have e := (h.out gl (Nat.lt_of_lt_of_le hlk hb.size) (by omega)).trans (hb.block gl hlk)
    simp only [World.cell?] at d1 d2 d3 d4 ⊢
    rw [e]
    exact ⟨d1, d2, d3, d4⟩
   obtain ⟨s0, s1, s2, s3⟩ := HS.out wr (Below.refl _ _)
   clear hous hbl hih ok1 ok2 nd1 nd2 hx hy hc u1 u2 u3 u4 d1 d2 d3 d4 hgr HM HB hgA hgl
   go_wp2
   refine wp_region_noPanic ?_
   refine wp_region_held_drew (S := (fun w' => w'.cell? ⟨gl, ol + i * 4, none⟩ = some (.string x0) /\ w'.cell? ⟨gl, ol + i * 4 + 1, none⟩ = some (.slice x1 x2 x3) /\ w'.cell? ⟨gl, ol + i * 4 + 2, none⟩ = some (.string y0) /\ w'.cell? ⟨gl, ol + i * 4 + 3, none⟩ = some (.slice y1 y2 y3))) (by kernel_rfl) (by exact HS.out _ (up_drew (Below.refl _ _))) (fun hHeld => ?_)
   refine tq 0 rfl ?_
   refine tq 1 rfl ?_
   refine tq 2 rfl ?_
   refine tq 3 rfl ?_
   refine tq 4 rfl ?_
   refine tq 5 rfl ?_
   refine tq 7 rfl ?_
   refine tq 8 rfl ?_
   refine tq 9 rfl ?_
   refine tq 10 rfl ?_
   refine tq 11 rfl ?_
   refine tz 6 rfl fun K hK => ?_
   go_simp
   go_at_call 65
   (with_reducible refine (HTA.out _ (up_drew (Below.refl _ _))).mono ?_)
   rintro e w5 ⟨rfl, hb5⟩
   have HB5 : Hid (Below wr.heap.size wr w5) := up_trans (up_drew (Below.refl _ _)) hb5
   clear hb5
   refine hK.out _ _ (by exact HS.out _ HB5.out) (fun hHeld => ?_)
   clear hK
   try simp only [Act.put, zA, zB, zC, zD, zE, zF]
   refine tz 12 rfl fun K hK => ?_
   go_simp
   go_at_call 65
   (with_reducible refine (HTB.out _ HB5.out).mono ?_)
   rintro e w6 ⟨rfl, hb6⟩
   have HB6 : Hid (Below wr.heap.size wr w6) := up_trans HB5.out hb6
   clear hb6
   refine hK.out _ _ (by exact HS.out _ HB6.out) (fun hHeld => ?_)
   clear hK
   try simp only [Act.put, zA, zB, zC, zD, zE, zF]
   refine tq 13 rfl ?_
   refine tz 14 rfl fun K hK => ?_
   go_simp
   refine hK.out _ _ (by exact HS.out _ (up_trans HB6.out (up1 _ _))) (fun hHeld => ?_)
   clear hK
   try simp only [Act.put, zA, zB, zC, zD, zE, zF]
   refine tz 15 rfl fun K hK => ?_
   refine step_append_rows _ rfl _ _ 24 rfl w.heap.size 2 42 i0 (.agg #[.string ⟨#[]⟩, .string ⟨#[]⟩]) 32 Tryz.underlying24 hi0 hz0 hz1 hz2 rfl (by decide) gr i cr (strs (fl (hs.take i))) rfl (HO.out _ (up_trans HB6.out (up1 _ _))) (some ⟨_, 0, none⟩) 1 1 [.string (St hh.1.toTr.txt), .string (St hh.2.toTr.txt)] rfl rfl (row_two (block_new w6 _)) (by simp [Value.oneCell']) (by omega) (by decide) (HSZ.out _ (up_trans HB6.out (up1 _ _))) (i + 1) rfl (strs (fl (hs.take i)) ++ [.string (St hh.1.toTr.txt), .string (St hh.2.toTr.txt)]) rfl ?_
   intro gn cn w9 hown hgrow hbel hat
   have HK9 := HAF.out _ w9 (up_trans HB6.out (up1 _ _)) hgrow
   have HFF := HFIN.out _ w9 gn cn (up_trans HB6.out (up1 _ _)) hgrow hbel hown
   clear hown hgrow hbel hat
   refine hK.out _ _ (by exact HS9.out _ _ (up_trans HB6.out (up1 _ _)) HK9) (fun hHeld => ?_)
   clear hK
   try simp only [Act.put, zA, zB, zC, zD, zE, zF]
   refine tq 16 rfl ?_
   refine wpAnyH_done (by kernel_rfl) ?_ _
   refine NoPanic.normal ?_
   go_wp2
   go_roundg m
   case measure => omega
   case rel => exact ⟨i + 1, gn, cn, rfl, rfl, by show m + (i + 1) = n; omega, HFF.out⟩
theorem specHolesOf_any (s nm v : ByteArray) (w : World) (hs : s.size <= 9223372036854775807) (hv : v.size <= 9223372036854775807) :
 Calls Tryz.prog 18 #[.string s, .string nm, .string v] w (HTPost w (holB s.data.toList nm.data.toList v.data.toList)) := by
 have HIS := Lib.hid fun w1 => specValueIs_any s v 100 w1 hs hv
 have HP : Hid (∀ w1, Calls Tryz.prog 55 #[.string nm] w1 fun e w' => e = .returned (.bool (paramB nm.data.toList)) /\ w1 = w') := fun w1 => l1Param_any nm w1
 have HNONE : Hid (∀ w', Below w.heap.size w w' -> HTPost w none (.returned (.tuple #[.slice (some ⟨w'.heap.size, 0, none⟩) 0 0, .bool false])) (w'.alloc (.cells #[] 42))) := fun w' hb => ⟨up_alloc hb _, _, _, rfl⟩
 have hokB := fun hs h => holB_ok (l := s.data.toList) (nm := nm.data.toList) (v := v.data.toList) (hs := hs) h
 cases ho : valsOf s.data.toList v.data.toList 100 with
 | none =>
  have HC := Lib.hid (l1Closed_form s w hs)
  have HV := Lib.hid fun w1 => l2Value_form v w1 hv
  have hz : isB s.data.toList v.data.toList 100 = false := by unfold isB; rw [ho]; rfl
  have hz2 : holB s.data.toList nm.data.toList v.data.toList = none := by unfold holB; rw [ho]
  rw [hz] at HIS
  rw [hz2]
  generalize HTPost w none = Q at *
  clear hs hv ho hz hz2 hokB
  go_enter Tryz.func18, Tryz.ntmps18
  go_wp2_with (first
   | (go_at_call 48; (with_reducible refine HC.out.mono ?_); rintro e w1 ⟨hb1, x1, A1, m1, c1, b1, rfl⟩; have HB1 := Lib.hid (up_alloc hb1 (.cells #[.string x1, .slice A1 m1 c1] 59)); clear hb1)
   | (go_at_call 54; (with_reducible refine (HV.out _).mono ?_); rintro e w2 ⟨hb2, x2, A2, m2, c2, b2, rfl⟩; have HB2 := Lib.hid (up_alloc (up_trans HB1.out hb2) (.cells #[.string x2, .slice A2 m2 c2] 59)); clear hb2)
   | (go_at_call 33; (with_reducible refine (HIS.out _).mono ?_); rintro e w3 ⟨rfl, hb3⟩; have HB3 := Lib.hid (up_trans HB2.out hb3); clear hb3))
  exact HNONE.out _ HB3.out
 | some q =>
  obtain ⟨N, x⟩ := q
  obtain ⟨hc, hr, _, _, hty⟩ := valsOf_some ho
  have hok := rdVal_ok hr
  have hnd := rdVal_nodes hr
  obtain ⟨_, hNo, hNa, _⟩ := clTy_some hc
  have HC := Lib.hid (l1Closed_tree w hs hc)
  have HV := Lib.hid fun w1 => l2Value_tree (v := v) (x := x) w1 hv hr
  have hz : isB s.data.toList v.data.toList 100 = true := by unfold isB; rw [ho]; rfl
  rw [hz] at HIS
  cases hp : paramB nm.data.toList with
  | false =>
   rw [hp] at HP
   have hz2 : holB s.data.toList nm.data.toList v.data.toList = none := by unfold holB; rw [ho]; simp [hp]
   rw [hz2]
   generalize HTPost w none = Q at *
   clear hs hv ho hz hz2 hokB hc hr hty hok hnd hNo hNa hp
   go_enter Tryz.func18, Tryz.ntmps18
   go_wp2_with (first
    | (go_at_call 48; (with_reducible refine HC.out.mono ?_); rintro e w1 ⟨hb1, x1, A1, m1, c1, rfl, _⟩; have HB1 := Lib.hid (up_alloc hb1 (.cells #[.string x1, .slice A1 m1 c1] 59)); clear hb1)
    | (go_at_call 54; (with_reducible refine (HV.out _).mono ?_); rintro e w2 ⟨hb2, x2, A2, m2, c2, rfl, _⟩; have HB2 := Lib.hid (up_alloc (up_trans HB1.out hb2) (.cells #[.string x2, .slice A2 m2 c2] 59)); clear hb2)
    | (go_at_call 33; (with_reducible refine (HIS.out _).mono ?_); rintro e w3 ⟨rfl, hb3⟩; have HB3 := Lib.hid (up_trans HB2.out hb3); clear hb3)
    | (go_at_call 55; (with_reducible refine (HP.out _).mono ?_); rintro e w4 ⟨rfl, rfl⟩))
   exact HNONE.out _ HB3.out
  | true =>
   rw [hp] at HP
   have hz2 : holB s.data.toList nm.data.toList v.data.toList = some (hol (N.db []) (.nm nm.data.toList) x) := by unfold holB; rw [ho]; simp [hp]
   obtain ⟨hok2, hl⟩ := hokB _ hz2
   have heq : holesN x.nodes N nm.data.toList x = hol (N.db []) (.nm nm.data.toList) x := (holesN_db x.nodes N [] nm.data.toList x (ok_ok3 hNo)).1 hp
   have HH : Hid (∀ w1 vt vv, TAt w1 (fun _ => True) N.toTr vt -> TAt w1 (fun _ => True) x.toTr vv -> Calls Tryz.prog 57 #[vt, .string nm, vv] w1 (SHPost w1 (hol (N.db []) (.nm nm.data.toList) x))) := fun w1 vt vv h1 h2 => by
    rw [<- heq]
    exact l4Holes_any x.nodes N [] [] nm.data.toList x vt vv w1 (ok_ok3 hNo) (name_ok (.inl hp)) hty (Nat.le_refl _) (by omega) h1 h2
   have HTX : Hid (∀ w1 A c us, RCells w1 A us -> TR w1 (hol (N.db []) (.nm nm.data.toList) x) us -> (∀ k o, A = some ⟨k, o, none⟩ -> k < w1.heap.size) -> Calls Tryz.prog 56 #[.slice A (hol (N.db []) (.nm nm.data.toList) x).length c] w1 fun e w' => Below w1.heap.size w1 w' /\ ∃ g c', e = .returned (.slice (some ⟨g, 0, none⟩) (hol (N.db []) (.nm nm.data.toList) x).length c') /\ POwn w' w1.heap.size (fl (hol (N.db []) (.nm nm.data.toList) x)) g (hol (N.db []) (.nm nm.data.toList) x).length c') := fun w1 A c us h1 h2 h3 => l4Told_any _ A c us w1 h1 h2 h3 hok2 (by omega)
   rw [hz2]
   clear heq
   generalize hol (N.db []) (.nm nm.data.toList) x = out at *
   have HQ : Hid (∀ w1 w' g c, Below w.heap.size w w1 -> Below w1.heap.size w1 w' -> POwn w' w1.heap.size (fl out) g out.length c -> HTPost w (some out) (.returned (.tuple #[.slice (some ⟨g, 0, none⟩) out.length c, .bool true])) w') := fun w1 w' g c h1 h2 h3 => ⟨up_trans h1 h2, g, c, rfl, World.ownsRow.mono h3 h1.size⟩
   generalize HTPost w (some out) = Q at *
   clear hs hv ho hz hz2 hokB hc hr hty hok hnd hNo hNa hp
   go_enter Tryz.func18, Tryz.ntmps18
   go_wp2_with (first
    | (go_at_call 48; (with_reducible refine HC.out.mono ?_); rintro e w1 ⟨hb1, x1, A1, m1, c1, rfl, ht1⟩; have HB1 := Lib.hid (up_alloc hb1 (.cells #[.string x1, .slice A1 m1 c1] 59)); have HT1 := Lib.hid (ht1.up (up1 w1 (.cells #[.string x1, .slice A1 m1 c1] 59))); have KB1 := Lib.hid (block_new w1 (.cells #[.string x1, .slice A1 m1 c1] 59)); clear hb1 ht1)
    | (go_at_call 54; (with_reducible refine (HV.out _).mono ?_); rintro e w2 ⟨hb2, x2, A2, m2, c2, rfl, ht2⟩; have HB2 := Lib.hid (up_alloc (up_trans HB1.out hb2) (.cells #[.string x2, .slice A2 m2 c2] 59)); have HT2 := Lib.hid (HT1.out.up (up_alloc hb2 (.cells #[.string x2, .slice A2 m2 c2] 59))); have HV2 := Lib.hid (ht2.up (up1 w2 (.cells #[.string x2, .slice A2 m2 c2] 59))); have KB2 := Lib.hid (block_up (up_alloc hb2 (.cells #[.string x2, .slice A2 m2 c2] 59)) KB1.out); have KC2 := Lib.hid (block_new w2 (.cells #[.string x2, .slice A2 m2 c2] 59)); clear hb2 ht2)
    | (go_at_call 33; (with_reducible refine (HIS.out _).mono ?_); rintro e w3 ⟨rfl, hb3⟩; have HB3 := Lib.hid (up_trans HB2.out hb3); have HT3 := Lib.hid (HT2.out.up hb3); have HV3 := Lib.hid (HV2.out.up hb3); have k0 := block_cell (block_up hb3 KB2.out) 0; have k1 := block_cell (block_up hb3 KB2.out) 1; have k2 := block_cell (block_up hb3 KC2.out) 0; have k3 := block_cell (block_up hb3 KC2.out) 1; clear hb3)
    | (go_at_call 55; (with_reducible refine (HP.out _).mono ?_); rintro e w4 ⟨rfl, rfl⟩)
    | (go_at_call 57; (with_reducible refine (HH.out _ _ _ HT3.out HV3.out).mono ?_); rintro e w5 ⟨hb5, g5, c5, rfl, us5, hu5, ht5⟩; have HB5 := Lib.hid (up_trans HB3.out hb5); have HR5 := Lib.hid (HOw.reads hu5 ht5); have HT5 := Lib.hid ht5; have HG5 := Lib.hid (World.ownsRow.lt hu5 g5 rfl); clear hb5 hu5 ht5)
    | (go_at_call 56; (with_reducible refine (HTX.out _ _ _ _ HR5.out HT5.out (fun k o h => by cases h; exact HG5.out.2)).mono ?_); rintro e w6 ⟨hb6, g6, c6, rfl, ho6⟩; have HB6 := Lib.hid hb6; have HO6 := Lib.hid ho6; clear hb6 ho6))
   exact HQ.out _ _ _ _ HB5.out HB6.out HO6.out
theorem specHoleCount_any (s nm v : ByteArray) (w : World) (hs : s.size <= 9223372036854775807) (hv : v.size <= 9223372036854775807) :
 Calls Tryz.prog 16 #[.string s, .string nm, .string v] w fun e w' => e = .returned (.int .i64 (hcB s.data.toList nm.data.toList v.data.toList)) /\ Below w.heap.size w w' := by
 have H := specHolesOf_any s nm v w hs hv
 unfold hcB
 clear hs hv
 generalize holB s.data.toList nm.data.toList v.data.toList = o at *
 cases o with
 | none =>
  have H : Hid (Calls Tryz.prog 18 #[.string s, .string nm, .string v] w fun e w' => Below w.heap.size w w' /\ ∃ A c, e = .returned (.tuple #[.slice A 0 c, .bool false])) := H
  show Calls _ _ _ _ (fun e w' => e = .returned (.int .i64 (-1)) /\ Below w.heap.size w w')
  go_enter Tryz.func16, Tryz.ntmps16
  go_wp2_with (go_at_call 18; refine H.out.mono ?_; rintro e w1 ⟨hb1, A1, c1, rfl⟩; have HB1 := Lib.hid hb1; clear hb1)
  go_ret
  exact ⟨rfl, HB1.out⟩
 | some out =>
  have H : Hid (Calls Tryz.prog 18 #[.string s, .string nm, .string v] w fun e w' => Below w.heap.size w w' /\ ∃ g c, e = .returned (.tuple #[.slice (some ⟨g, 0, none⟩) out.length c, .bool true])) := Lib.hid <| H.mono fun e w' ⟨h1, g, c, h2, _⟩ => ⟨h1, g, c, h2⟩
  show Calls _ _ _ _ (fun e w' => e = .returned (.int .i64 (out.length : Nat)) /\ Below w.heap.size w w')
  generalize out.length = n at *
  go_enter Tryz.func16, Tryz.ntmps16
  go_wp2_with (go_at_call 18; refine H.out.mono ?_; rintro e w1 ⟨hb1, g1, c1, rfl⟩; have HB1 := Lib.hid hb1; clear hb1)
  go_ret
  exact ⟨rfl, HB1.out⟩
end Go.Proofs.YtpokompplapkhaaGreatDoor

