/- The reference's l2Is. -/
import Derived.Test.YtpokompplapkhaaGreatDoorEnv2
import Derived.Test.YtpokompplapkhaaGreatDoorTk
import Derived.Test.YtpokompplapkhaaGreatDoorNB
namespace Go.Proofs.YtpokompplapkhaaGreatDoor
set_option maxHeartbeats 8000000
set_option maxRecDepth 100000
open Go.RowKit
set_option linter.unusedVariables false
set_option linter.unusedSimpArgs false
theorem two_cells {w : World} {h : List UInt8} {q : List Tr} {a : Tr} {v : Value} (hp : TAt w (fun _ => True) (.mk [] [.mk h q, a]) v) :
 ∃ bl o c, v = .agg #[.string (St []), .slice (some ⟨bl, o, none⟩) 2 c] /\ ∃ A2 n2 c2, Hid (∀ w1, Below w.heap.size w w1 -> w1.cell? ⟨bl, o + 2, none⟩ = some (.string (St a.atom)) /\ w1.cell? ⟨bl, o + 3, none⟩ = some (.slice A2 n2 c2) /\ Hid (TAt w1 (fun _ => True) a (.agg #[.string (St a.atom), .slice A2 n2 c2]))) /\
  Hid (∀ w1, Below w.heap.size w w1 -> Calls Tryz.prog 125 #[.agg #[.string (St []), .slice (some ⟨bl, o, none⟩) 2 c]] w1 fun e w' => e = .returned (.string (St h)) /\ Below w1.heap.size w1 w') := by
 have hh : ∀ w1, Below w.heap.size w w1 -> Calls Tryz.prog 125 #[v] w1 fun e w' => e = .returned (.string (St h)) /\ Below w1.heap.size w1 w' := fun w1 (hb : Below w.heap.size w w1) => l1Head_any _ v w1 (hp.up hb)
 obtain ⟨A, c, rfl, hr⟩ := hp.parts
 obtain ⟨bl, o, A', c', rfl, _, _, _, _, hr⟩ := hr.uncons
 obtain ⟨A2, n2, c2, d2, d3, ha, hr⟩ := hr.at3
 exact ⟨bl, o, c, rfl, A2, n2, c2, fun w1 hb' => ⟨cell_up hb' d2, cell_up hb' d3, ha.up hb'⟩, hh⟩
theorem agg_inj {x y : ByteArray} {A B : Option Addr} {n m c d : Nat} (h : Value.agg #[.string x, .slice A n c] = .agg #[.string y, .slice B m d]) : x = y /\ A = B /\ n = m /\ c = d := by
 simp only [Value.agg.injEq, Array.mk.injEq, List.cons.injEq, Value.string.injEq, Value.slice.injEq, and_true] at h
 exact h
def V.hd : V -> List UInt8
 | .l _ => [108]
 | .r _ => [114]
 | .f _ => [102]
 | .p _ _ => [112]
 | _ => []
theorem head_v {v : V} (h : v.ok) : headOf v.toTr = v.hd := by
 cases v with
 | el s =>
  have hs : s ≠ [] := by rintro rfl; cases h
  simp [V.toTr, headOf, V.hd, hs]
 | _ => rfl
def LIs (v : V) (t' : NT) : Prop := ∀ (t : NT) (env : List (List UInt8 × NT)) (A : Option Addr) (c : Nat) (vt vv : Value) (w : World) (n : Int) (env' : List (List UInt8 × NT)), fnd env t = (t', env') ->
 TAt w (fun _ => True) t.toTr vt -> EnvAt w env A -> TAt w (fun _ => True) v.toTr vv -> EnvB env -> t.ok3 -> env.length + t.atoms <= 100000 -> v.ok -> 0 <= n -> n <= 100 ->
 Calls Tryz.prog 81 #[vt, .slice A env.length c, vv, .int .i64 n] w fun e w' => e = .returned (.bool (v.isOfN n env' t')) /\ Below w.heap.size w w'
theorem set_box {w w1 : World} {a b c d : Value} {T : TypeId} (hb : Below w.heap.size w w1) (h0 : w1.heap[w.heap.size]? = some (.cells #[a, b] T (0, 0))) (h1 : w1.heap[w.heap.size + 1]? = some (.cells #[c, d] T (0, 0))) (x y : Value) :
 Below w.heap.size w ((w1.setCell ⟨w.heap.size, 0, none⟩ x).setCell ⟨w.heap.size, 1, none⟩ y) /\ ((w1.setCell ⟨w.heap.size, 0, none⟩ x).setCell ⟨w.heap.size, 1, none⟩ y).heap[w.heap.size]? = some (.cells #[x, y] T (0, 0)) /\ ((w1.setCell ⟨w.heap.size, 0, none⟩ x).setCell ⟨w.heap.size, 1, none⟩ y).heap[w.heap.size + 1]? = some (.cells #[c, d] T (0, 0)) := by
 refine ⟨set0 (set0 hb (Nat.le_refl _)) (Nat.le_refl _), ?_, ?_⟩
 · have h2 := block_set (block_set h0 0 x) 1 y
   exact h2
 · rw [Below.heap_setCell _ ⟨w.heap.size, 1, none⟩ _ _ (by simp), Below.heap_setCell _ ⟨w.heap.size, 0, none⟩ _ _ (by simp), h1]
theorem l2Is_atom (v : V) (t' : NT) (s : List UInt8) (hs : t'.toTr = .mk s []) (hsn : s ≠ []) (hr : ∀ (n : Int) (env' : List (List UInt8 × NT)), 0 <= n -> (∀ x, t' = .name x -> lookN x env' = none) -> v.ok -> v.isOfN n env' t' = if s = [49] then decide (v.toTr.atom = [117]) else (paramB s && (decide (0 <= elemNum v.toTr.atom) && decide (elemNum v.toTr.atom <= n - 1)))) : LIs v t' := by
 intro t env A c vt vv w n env' hfnd hT hE hV hB ht3 hlen hvok hn0 hn1
 obtain ⟨hB', ht3', hlen', hno, _⟩ := fnd_spec hB t ht3 hlen
 obtain ⟨P, m, cc, A', c'', hT', hE', HF⟩ := l2Find_at t env A c vt w hT hE hB ht3
 rw [hfnd] at hT' hE' HF hB' ht3' hlen' hno
 simp only at hT' hE' HF hB' ht3' hlen' hno
 rw [hr n env' hn0 hno hvok]
 rw [hs] at hT' HF
 have hw : IntKind.i64.wrap (n - 1) = n - 1 := by rw [IntKind.wrap_i64]; omega
 have hva : ∃ Av nv cv, vv = .agg #[.string (St v.toTr.atom), .slice Av nv cv] := by
  generalize v.toTr = tv at hV
  obtain ⟨sv, psv⟩ := tv
  obtain ⟨A, c, rfl, _⟩ := hV.parts
  exact ⟨_, _, _, rfl⟩
 obtain ⟨Av, nv, cv, rfl⟩ := hva
 obtain ⟨xt, At, nt, ct0, rfl⟩ := hT.form
 have HP : Hid (∀ w1, Calls Tryz.prog 55 #[.string (St s)] w1 fun e w' => e = .returned (.bool (paramB s)) /\ w1 = w') := fun w1 => l1Param_any (St s) w1
 have HEL : Hid (∀ w1, Calls Tryz.prog 64 #[.string (St v.toTr.atom)] w1 fun e w' => e = .returned (.int .i64 (elemNum v.toTr.atom)) /\ w1 = w') := fun w1 => l2Element_any (St v.toTr.atom) w1
 have HIN : Hid (∀ w1 z, Calls Tryz.prog 80 #[.int .i64 z, .int .i64 0, .int .i64 (n - 1)] w1 fun e w' => e = .returned (.bool (decide (0 <= z) && decide (z <= n - 1))) /\ w1 = w') := fun w1 z => l6In_any z 0 (n - 1) w1
 replace HF : Hid (∀ w1, Below w.heap.size w w1 -> Calls Tryz.prog 140 #[.agg #[.string xt, .slice At nt ct0], .slice A env.length c] w1 fun e w' => e = .returned (.tuple #[.agg #[.string (St s), .slice P m cc], .slice A' env'.length c'']) /\ Below w1.heap.size w1 w') := HF
 have k0 : (s == []) = false := by simpa using hsn
 clear hT hE hV hB ht3 hlen hvok hT' hE' hr hs hfnd hB' ht3' hlen' hno hn0 hn1
 generalize hva : v.toTr.atom = va at *
 generalize elemNum va = z at *
 clear hva
 by_cases h1 : s = [49]
 · subst h1
   rw [if_pos rfl]
   have hd : decide (va = [117]) = (va == [117]) := by rw [Bool.eq_iff_iff]; simp
   rw [hd]
   go_enter Tryz.func81, Tryz.ntmps81
   go_wp2_with (go_at_call 140; (with_reducible refine (HF.out _ (up_alloc (up1 w _) _)).mono ?_); rintro e w1 ⟨rfl, hb1⟩; have K0 := block_up hb1 (old2 w (.cells #[.string xt, .slice At nt ct0] 59) (.cells #[.string (St va), .slice Av nv cv] 59)); have K1 := block_up hb1 (new2 w (.cells #[.string xt, .slice At nt ct0] 59) (.cells #[.string (St va), .slice Av nv cv] 59)); have r0 : w1.cell? ⟨w.heap.size, 0, none⟩ = some (.string xt) := block_cell K0 0; have r1 : w1.cell? ⟨w.heap.size, 1, none⟩ = some (.slice At nt ct0) := block_cell K0 1; have d0 : w1.cell? ⟨w.heap.size + 1, 0, none⟩ = some (.string (St va)) := block_cell K1 0; have g0 := block_free K0 0; have g1 := block_free K0 1; have lr := lt_of_block K0; have HB1 := Lib.hid (up_trans (up_alloc (up1 w _) _) hb1); have HK0 := Lib.hid K0; have HK1 := Lib.hid K1; clear hb1 K0 K1)
   go_ret
   exact ⟨rfl, by repeat (first | exact HB1.out | refine set0 ?_ (by omega))⟩
 · rw [if_neg h1]
   have k1 : (s == [49]) = false := by simpa using h1
   clear h1
   cases hp : paramB s with
   | false =>
    rw [hp] at HP
    go_enter Tryz.func81, Tryz.ntmps81
    go_wp2_with (first
     | (go_at_call 140; (with_reducible refine (HF.out _ (up_alloc (up1 w _) _)).mono ?_); rintro e w1 ⟨rfl, hb1⟩; have K0 := block_up hb1 (old2 w (.cells #[.string xt, .slice At nt ct0] 59) (.cells #[.string (St va), .slice Av nv cv] 59)); have K1 := block_up hb1 (new2 w (.cells #[.string xt, .slice At nt ct0] 59) (.cells #[.string (St va), .slice Av nv cv] 59)); have r0 : w1.cell? ⟨w.heap.size, 0, none⟩ = some (.string xt) := block_cell K0 0; have r1 : w1.cell? ⟨w.heap.size, 1, none⟩ = some (.slice At nt ct0) := block_cell K0 1; have d0 : w1.cell? ⟨w.heap.size + 1, 0, none⟩ = some (.string (St va)) := block_cell K1 0; have g0 := block_free K0 0; have g1 := block_free K0 1; have lr := lt_of_block K0; have HB1 := Lib.hid (up_trans (up_alloc (up1 w _) _) hb1); have HK0 := Lib.hid K0; have HK1 := Lib.hid K1; clear hb1 K0 K1)
     | (go_at_call 55; (with_reducible refine (HP.out _).mono ?_); rintro e w2 ⟨rfl, rfl⟩))
    go_ret
    exact ⟨rfl, by repeat (first | exact HB1.out | refine set0 ?_ (by omega))⟩
   | true =>
    rw [hp] at HP
    go_enter Tryz.func81, Tryz.ntmps81
    go_wp2_with (first
     | (go_at_call 140; (with_reducible refine (HF.out _ (up_alloc (up1 w _) _)).mono ?_); rintro e w1 ⟨rfl, hb1⟩; have K0 := block_up hb1 (old2 w (.cells #[.string xt, .slice At nt ct0] 59) (.cells #[.string (St va), .slice Av nv cv] 59)); have K1 := block_up hb1 (new2 w (.cells #[.string xt, .slice At nt ct0] 59) (.cells #[.string (St va), .slice Av nv cv] 59)); have r0 : w1.cell? ⟨w.heap.size, 0, none⟩ = some (.string xt) := block_cell K0 0; have r1 : w1.cell? ⟨w.heap.size, 1, none⟩ = some (.slice At nt ct0) := block_cell K0 1; have d0 : w1.cell? ⟨w.heap.size + 1, 0, none⟩ = some (.string (St va)) := block_cell K1 0; have g0 := block_free K0 0; have g1 := block_free K0 1; have lr := lt_of_block K0; have HB1 := Lib.hid (up_trans (up_alloc (up1 w _) _) hb1); have HK0 := Lib.hid K0; have HK1 := Lib.hid K1; clear hb1 K0 K1)
     | (go_at_call 55; (with_reducible refine (HP.out _).mono ?_); rintro e w2 ⟨rfl, rfl⟩)
     | (go_at_call 64; (with_reducible refine (HEL.out _).mono ?_); rintro e w2 ⟨rfl, rfl⟩)
     | (go_at_call 80; (with_reducible refine (HIN.out _ _).mono ?_); rintro e w2 ⟨rfl, rfl⟩))
    go_ret
    exact ⟨by simp, by repeat (first | exact HB1.out | refine set0 ?_ (by omega))⟩
theorem l2Is_none (v : V) (t' : NT) (h : List UInt8) (a b : Tr) (hs : t'.toTr = .mk [] [.mk h [], a, b])
 (q1 : ((St h ++ St v.hd).toList == [43, 108]) = false) (q2 : ((St h ++ St v.hd).toList == [43, 114]) = false) (q3 : ((St h ++ St v.hd).toList == [42, 112]) = false) (q4 : ((St h ++ St v.hd).toList == [114, 101, 99, 102]) = false) (hh : h.length <= 10) (hr : ∀ (n : Int) (env' : List (List UInt8 × NT)), v.isOfN n env' t' = false) : LIs v t' := by
 intro t env A c vt vv w n env' hfnd hT hE hV hB ht3 hlen hvok hn0 hn1
 obtain ⟨hB', ht3', hlen', hno, _⟩ := fnd_spec hB t ht3 hlen
 obtain ⟨P, m, cc, A', c'', hT', hE', HF⟩ := l2Find_at t env A c vt w hT hE hB ht3
 rw [hfnd] at hT' hE' HF hB' ht3' hlen' hno
 simp only at hT' hE' HF hB' ht3' hlen' hno
 rw [hs] at hT' HF
 simp only [Tr.atom] at hT' HF
 obtain ⟨bl, o, ct, hag, A2, n2, cc2, A4, n4, c4, HC, HH⟩ := three_cells hT'
 obtain ⟨_, h1, h2, h3⟩ := agg_inj hag
 subst h1 h2 h3
 obtain ⟨xt, At, nt, ct0, rfl⟩ := hT.form
 rw [hr]
 have q9 : ¬ 9223372036854775807 < (St h).size + (St v.hd).size := by
  have h1 : v.hd.length <= 1 := by cases v <;> simp [V.hd]
  show ¬ 9223372036854775807 < h.length + v.hd.length
  omega
 obtain ⟨xv, Av, nv, cv, rfl⟩ := hV.form
 have HHV : Hid (∀ w1, Below w.heap.size w w1 -> Calls Tryz.prog 125 #[.agg #[.string xv, .slice Av nv cv]] w1 fun e w' => e = .returned (.string (St v.hd)) /\ Below w1.heap.size w1 w') := fun w1 hb => by
  have := l1Head_any _ _ w1 (hV.up hb)
  rwa [head_v hvok] at this
 clear hT hE hV hB ht3 hlen hvok hT' hE' hr hs hfnd hB' ht3' hlen' hno hn0 hn1 hag HC hh
 generalize St v.hd = y at *
 generalize St h = x at *
 obtain ⟨z, hz⟩ : ∃ z, z = x ++ y := ⟨_, rfl⟩
 go_enter Tryz.func81, Tryz.ntmps81
 go_wp2_with (go_at_call 140; (with_reducible refine (HF.out _ (up_alloc (up1 w _) _)).mono ?_); rintro e w1 ⟨rfl, hb1⟩; have K0 := block_up hb1 (old2 w (.cells #[.string xt, .slice At nt ct0] 59) (.cells #[.string xv, .slice Av nv cv] 59)); have K1 := block_up hb1 (new2 w (.cells #[.string xt, .slice At nt ct0] 59) (.cells #[.string xv, .slice Av nv cv] 59)); have r0 : w1.cell? ⟨w.heap.size, 0, none⟩ = some (.string xt) := block_cell K0 0; have r1 : w1.cell? ⟨w.heap.size, 1, none⟩ = some (.slice At nt ct0) := block_cell K0 1; have d0 : w1.cell? ⟨w.heap.size + 1, 0, none⟩ = some (.string xv) := block_cell K1 0; have g0 := block_free K0 0; have g1 := block_free K0 1; have lr := lt_of_block K0; have HB1 := Lib.hid (up_trans (up_alloc (up1 w _) _) hb1); have HK0 := Lib.hid K0; have HK1 := Lib.hid K1; clear hb1 K0 K1)
 obtain ⟨BW, C0, C1⟩ := set_box HB1.out HK0.out HK1.out (.string (St [])) (.slice (some ⟨bl, o, none⟩) 3 cc)
 generalize ((w1.setCell ⟨w.heap.size, 0, none⟩ (.string (St []))).setCell ⟨w.heap.size, 1, none⟩ (.slice (some ⟨bl, o, none⟩) 3 cc)) = W1 at *
 have HBW := Lib.hid BW
 have HS : Hid (∀ w', Below W1.heap.size W1 w' -> w'.cell? ⟨w.heap.size, 0, none⟩ = some (.string (St [])) /\ w'.cell? ⟨w.heap.size, 1, none⟩ = some (.slice (some ⟨bl, o, none⟩) 3 cc) /\ w'.cell? ⟨w.heap.size + 1, 0, none⟩ = some (.string xv) /\ w'.cell? ⟨w.heap.size + 1, 1, none⟩ = some (.slice Av nv cv)) := fun w' h => ⟨cell_up h (block_cell C0 0), cell_up h (block_cell C0 1), cell_up h (block_cell C1 0), cell_up h (block_cell C1 1)⟩
 obtain ⟨s0, s1, s2, s3⟩ := HS.out W1 (Below.refl _ _)
 clear C0 C1 BW r0 r1 g0 g1 lr HK0 HK1 HB1
 refine wp_region_noPanic ?_
 refine wp_region_held_drew (S := (fun w' => w'.cell? ⟨w.heap.size, 0, none⟩ = some (.string (St [])) /\ w'.cell? ⟨w.heap.size, 1, none⟩ = some (.slice (some ⟨bl, o, none⟩) 3 cc) /\ w'.cell? ⟨w.heap.size + 1, 0, none⟩ = some (.string xv) /\ w'.cell? ⟨w.heap.size + 1, 1, none⟩ = some (.slice Av nv cv))) (by kernel_rfl) (by exact HS.out _ (up_drew (Below.refl _ _))) (fun hHeld => ?_)
 refine tq 0 rfl ?_
 refine tq 2 rfl ?_
 refine tz 1 rfl fun K hK => ?_
 go_simp
 go_at_call 125
 (with_reducible refine (HH.out _ (up_drew HBW.out)).mono ?_)
 rintro e w2 ⟨rfl, hb2⟩
 have K2 : Hid (Below W1.heap.size W1 w2) := up_trans (up_drew (Below.refl _ _)) hb2
 clear hb2
 refine hK.out _ _ (by exact HS.out _ K2.out) (fun hHeld => ?_)
 clear hK
 try simp only [Act.put, zA, zB, zC, zD, zE, zF]
 refine tz 3 rfl fun K hK => ?_
 go_simp
 go_at_call 125
 (with_reducible refine (HHV.out _ (up_trans HBW.out K2.out)).mono ?_)
 rintro e w3 ⟨rfl, hb3⟩
 have K3 : Hid (Below W1.heap.size W1 w3) := up_trans K2.out hb3
 obtain ⟨f0, f1, f2, f3⟩ := HS.out w3 K3.out
 clear hb3
 refine hK.out _ _ (by exact HS.out _ K3.out) (fun hHeld => ?_)
 clear hK
 try simp only [Act.put, zA, zB, zC, zD, zE, zF]
 refine tq 4 rfl ?_
 refine wpAnyH_done (by kernel_rfl) ?_ _
 refine NoPanic.normal ?_
 all_goals go_wp2
 all_goals go_ret
 all_goals exact ⟨rfl, up_trans HBW.out K3.out⟩
def LT (v : V) : Prop := ∀ (t : NT) (env : List (List UInt8 × NT)) (A : Option Addr) (c : Nat) (vt vv : Value) (w : World) (n : Int),
 TAt w (fun _ => True) t.toTr vt -> EnvAt w env A -> TAt w (fun _ => True) v.toTr vv -> EnvB env -> t.ok3 -> env.length + t.atoms <= 100000 -> v.ok -> 0 <= n -> n <= 100 ->
 Calls Tryz.prog 81 #[vt, .slice A env.length c, vv, .int .i64 n] w fun e w' => e = .returned (.bool (v.isOfN n env t)) /\ Below w.heap.size w w'
theorem l2Is_pl (x : V) (a b : NT) (hsub : LT x) : LIs (.l x) (.sum a b) := by
 intro t env A c vt vv w n env' hfnd hT hE hV hB ht3 hlen hvok hn0 hn1
 obtain ⟨hB', ht3', hlen', hno, _⟩ := fnd_spec hB t ht3 hlen
 obtain ⟨P, m, cc, A', c'', hT', hE', HF⟩ := l2Find_at t env A c vt w hT hE hB ht3
 rw [hfnd] at hT' hE' HF hB' ht3' hlen' hno
 simp only at hT' hE' HF hB' ht3' hlen' hno
 have hs : (NT.sum a b).toTr = .mk [] [.mk [43] [], a.toTr, b.toTr] := rfl
 rw [hs] at hT' HF
 simp only [Tr.atom] at hT' HF
 obtain ⟨bl, o, ct, hag, A2, n2, cc2, A4, n4, c4, HC, HH⟩ := three_cells hT'
 obtain ⟨_, h1, h2, h3⟩ := agg_inj hag
 subst h1 h2 h3
 obtain ⟨xt, At, nt, ct0, rfl⟩ := hT.form
 obtain ⟨bv, ov, cv, rfl, A5, n5, c5, HCV, HHV⟩ := two_cells hV
 have HIS : Hid (∀ w1, Below w.heap.size w w1 -> Calls Tryz.prog 81 #[.agg #[.string (St a.toTr.atom), .slice A2 n2 cc2], .slice A' env'.length c'', .agg #[.string (St x.toTr.atom), .slice A5 n5 c5], .int .i64 n] w1 fun e w' => e = .returned (.bool (x.isOfN n env' a)) /\ Below w1.heap.size w1 w') := fun w1 h => hsub a env' A' c'' _ _ w1 n (HC.out w1 h).2.2.2.2.1.out (hE'.up h) (HCV.out w1 h).2.2.out hB' ht3'.1 (by simp only [NT.atoms] at hlen'; omega) hvok hn0 hn1
 show Calls _ _ _ _ (fun e w' => e = .returned (.bool (x.isOfN n env' a)) /\ _)
 generalize x.isOfN n env' a = bx at *
 have q9 : ¬ 9223372036854775807 < (St [43]).size + (St [108]).size := by decide
 have q0 : ((St [43] ++ St [108]).toList == [43, 108]) = true := by kernel_rfl
 clear hT hE hV hB ht3 hlen hvok hT' hE' hs hfnd hB' ht3' hlen' hno hn0 hn1 hag hsub
 generalize a.toTr.atom = aa at *
 generalize b.toTr.atom = ab at *
 generalize x.toTr.atom = ax at *
 generalize St [108] = y at *
 generalize St [43] = x0 at *
 go_enter Tryz.func81, Tryz.ntmps81
 go_wp2_with (go_at_call 140; (with_reducible refine (HF.out _ (up_alloc (up1 w _) _)).mono ?_); rintro e w1 ⟨rfl, hb1⟩; have K0 := block_up hb1 (old2 w (.cells #[.string xt, .slice At nt ct0] 59) (.cells #[.string (St []), .slice (some ⟨bv, ov, none⟩) 2 cv] 59)); have K1 := block_up hb1 (new2 w (.cells #[.string xt, .slice At nt ct0] 59) (.cells #[.string (St []), .slice (some ⟨bv, ov, none⟩) 2 cv] 59)); have r0 : w1.cell? ⟨w.heap.size, 0, none⟩ = some (.string xt) := block_cell K0 0; have r1 : w1.cell? ⟨w.heap.size, 1, none⟩ = some (.slice At nt ct0) := block_cell K0 1; have d0 : w1.cell? ⟨w.heap.size + 1, 0, none⟩ = some (.string (St [])) := block_cell K1 0; have g0 := block_free K0 0; have g1 := block_free K0 1; have lr := lt_of_block K0; have HB1 := Lib.hid (up_trans (up_alloc (up1 w _) _) hb1); have HK0 := Lib.hid K0; have HK1 := Lib.hid K1; clear hb1 K0 K1)
 obtain ⟨BW, C0, C1⟩ := set_box HB1.out HK0.out HK1.out (.string (St [])) (.slice (some ⟨bl, o, none⟩) 3 cc)
 generalize ((w1.setCell ⟨w.heap.size, 0, none⟩ (.string (St []))).setCell ⟨w.heap.size, 1, none⟩ (.slice (some ⟨bl, o, none⟩) 3 cc)) = W1 at *
 have HBW := Lib.hid BW
 have HS : Hid (∀ w', Below W1.heap.size W1 w' -> w'.cell? ⟨w.heap.size, 0, none⟩ = some (.string (St [])) /\ w'.cell? ⟨w.heap.size, 1, none⟩ = some (.slice (some ⟨bl, o, none⟩) 3 cc) /\ w'.cell? ⟨w.heap.size + 1, 0, none⟩ = some (.string (St [])) /\ w'.cell? ⟨w.heap.size + 1, 1, none⟩ = some (.slice (some ⟨bv, ov, none⟩) 2 cv)) := fun w' h => ⟨cell_up h (block_cell C0 0), cell_up h (block_cell C0 1), cell_up h (block_cell C1 0), cell_up h (block_cell C1 1)⟩
 obtain ⟨s0, s1, s2, s3⟩ := HS.out W1 (Below.refl _ _)
 clear C0 C1 BW r0 r1 g0 g1 lr HK0 HK1 HB1
 refine wp_region_noPanic ?_
 refine wp_region_held_drew (S := (fun w' => w'.cell? ⟨w.heap.size, 0, none⟩ = some (.string (St [])) /\ w'.cell? ⟨w.heap.size, 1, none⟩ = some (.slice (some ⟨bl, o, none⟩) 3 cc) /\ w'.cell? ⟨w.heap.size + 1, 0, none⟩ = some (.string (St [])) /\ w'.cell? ⟨w.heap.size + 1, 1, none⟩ = some (.slice (some ⟨bv, ov, none⟩) 2 cv))) (by kernel_rfl) (by exact HS.out _ (up_drew (Below.refl _ _))) (fun hHeld => ?_)
 refine tq 0 rfl ?_
 refine tq 2 rfl ?_
 refine tz 1 rfl fun K hK => ?_
 go_simp
 go_at_call 125
 (with_reducible refine (HH.out _ (up_drew HBW.out)).mono ?_)
 rintro e w2 ⟨rfl, hb2⟩
 have K2 : Hid (Below W1.heap.size W1 w2) := up_trans (up_drew (Below.refl _ _)) hb2
 clear hb2
 refine hK.out _ _ (by exact HS.out _ K2.out) (fun hHeld => ?_)
 clear hK
 try simp only [Act.put, zA, zB, zC, zD, zE, zF]
 refine tz 3 rfl fun K hK => ?_
 go_simp
 go_at_call 125
 (with_reducible refine (HHV.out _ (up_trans HBW.out K2.out)).mono ?_)
 rintro e w3 ⟨rfl, hb3⟩
 have K3 : Hid (Below W1.heap.size W1 w3) := up_trans K2.out hb3
 obtain ⟨f0, f1, f2, f3⟩ := HS.out w3 K3.out
 clear hb3
 refine hK.out _ _ (by exact HS.out _ K3.out) (fun hHeld => ?_)
 clear hK
 try simp only [Act.put, zA, zB, zC, zD, zE, zF]
 refine tq 4 rfl ?_
 refine wpAnyH_done (by kernel_rfl) ?_ _
 refine NoPanic.normal ?_
 go_wp2
 have HS2 : Hid (∀ w', Below W1.heap.size W1 w' -> w'.cell? ⟨w.heap.size, 0, none⟩ = some (.string (St [])) /\ w'.cell? ⟨w.heap.size, 1, none⟩ = some (.slice (some ⟨bl, o, none⟩) 3 cc) /\ w'.cell? ⟨w.heap.size + 1, 0, none⟩ = some (.string (St [])) /\ w'.cell? ⟨w.heap.size + 1, 1, none⟩ = some (.slice (some ⟨bv, ov, none⟩) 2 cv) /\ w'.cell? ⟨bl, o + 2, none⟩ = some (.string (St aa)) /\ w'.cell? ⟨bl, o + 3, none⟩ = some (.slice A2 n2 cc2) /\ w'.cell? ⟨bv, ov + 2, none⟩ = some (.string (St ax)) /\ w'.cell? ⟨bv, ov + 3, none⟩ = some (.slice A5 n5 c5)) := fun w' h => by
  obtain ⟨d2, d3, _, _, _, _⟩ := HC.out w' (up_trans HBW.out h)
  obtain ⟨e2, e3, _⟩ := HCV.out w' (up_trans HBW.out h)
  obtain ⟨u0, u1, u2, u3⟩ := HS.out w' h
  exact ⟨u0, u1, u2, u3, d2, d3, e2, e3⟩
 refine wp_region_noPanic ?_
 refine wp_region_held_drew (S := (fun w' => w'.cell? ⟨w.heap.size, 0, none⟩ = some (.string (St [])) /\ w'.cell? ⟨w.heap.size, 1, none⟩ = some (.slice (some ⟨bl, o, none⟩) 3 cc) /\ w'.cell? ⟨w.heap.size + 1, 0, none⟩ = some (.string (St [])) /\ w'.cell? ⟨w.heap.size + 1, 1, none⟩ = some (.slice (some ⟨bv, ov, none⟩) 2 cv) /\ w'.cell? ⟨bl, o + 2, none⟩ = some (.string (St aa)) /\ w'.cell? ⟨bl, o + 3, none⟩ = some (.slice A2 n2 cc2) /\ w'.cell? ⟨bv, ov + 2, none⟩ = some (.string (St ax)) /\ w'.cell? ⟨bv, ov + 3, none⟩ = some (.slice A5 n5 c5))) (by kernel_rfl) (by exact HS2.out _ (up_drew K3.out)) (fun hHeld => ?_)
 refine tq 0 rfl ?_
 refine tq 1 rfl ?_
 refine tq 2 rfl ?_
 refine tq 3 rfl ?_
 refine tq 4 rfl ?_
 refine tq 5 rfl ?_
 refine tq 6 rfl ?_
 refine tq 7 rfl ?_
 refine tq 8 rfl ?_
 refine tq 9 rfl ?_
 refine tz 10 rfl fun K hK => ?_
 go_simp
 go_at_call 81
 (with_reducible refine (HIS.out _ (up_drew (up_trans HBW.out K3.out))).mono ?_)
 rintro e w4 ⟨rfl, hb4⟩
 have K4 : Hid (Below W1.heap.size W1 w4) := up_trans (up_trans K3.out (up_drew (Below.refl _ _))) hb4
 clear hb4
 refine hK.out _ _ (by exact HS2.out _ K4.out) (fun hHeld => ?_)
 clear hK
 try simp only [Act.put, zA, zB, zC, zD, zE, zF]
 refine tq 11 rfl ?_
 refine wpAnyH_done (by kernel_rfl) ?_ _
 refine NoPanic.normal ?_
 go_wp2
 go_ret
 exact ⟨rfl, up_trans HBW.out K4.out⟩
theorem l2Is_pr (x : V) (a b : NT) (hsub : LT x) : LIs (.r x) (.sum a b) := by
 intro t env A c vt vv w n env' hfnd hT hE hV hB ht3 hlen hvok hn0 hn1
 obtain ⟨hB', ht3', hlen', hno, _⟩ := fnd_spec hB t ht3 hlen
 obtain ⟨P, m, cc, A', c'', hT', hE', HF⟩ := l2Find_at t env A c vt w hT hE hB ht3
 rw [hfnd] at hT' hE' HF hB' ht3' hlen' hno
 simp only at hT' hE' HF hB' ht3' hlen' hno
 have hs : (NT.sum a b).toTr = .mk [] [.mk [43] [], a.toTr, b.toTr] := rfl
 rw [hs] at hT' HF
 simp only [Tr.atom] at hT' HF
 obtain ⟨bl, o, ct, hag, A2, n2, cc2, A4, n4, c4, HC, HH⟩ := three_cells hT'
 obtain ⟨_, h1, h2, h3⟩ := agg_inj hag
 subst h1 h2 h3
 obtain ⟨xt, At, nt, ct0, rfl⟩ := hT.form
 obtain ⟨bv, ov, cv, rfl, A5, n5, c5, HCV, HHV⟩ := two_cells hV
 have HIS : Hid (∀ w1, Below w.heap.size w w1 -> Calls Tryz.prog 81 #[.agg #[.string (St b.toTr.atom), .slice A4 n4 c4], .slice A' env'.length c'', .agg #[.string (St x.toTr.atom), .slice A5 n5 c5], .int .i64 n] w1 fun e w' => e = .returned (.bool (x.isOfN n env' b)) /\ Below w1.heap.size w1 w') := fun w1 h => hsub b env' A' c'' _ _ w1 n (HC.out w1 h).2.2.2.2.2.out (hE'.up h) (HCV.out w1 h).2.2.out hB' ht3'.2 (by simp only [NT.atoms] at hlen'; omega) hvok hn0 hn1
 show Calls _ _ _ _ (fun e w' => e = .returned (.bool (x.isOfN n env' b)) /\ _)
 generalize x.isOfN n env' b = bx at *
 have q9 : ¬ 9223372036854775807 < (St [43]).size + (St [114]).size := by decide
 have q0 : ((St [43] ++ St [114]).toList == [43, 108]) = false := by kernel_rfl
 have q1 : ((St [43] ++ St [114]).toList == [43, 114]) = true := by kernel_rfl
 clear hT hE hV hB ht3 hlen hvok hT' hE' hs hfnd hB' ht3' hlen' hno hn0 hn1 hag hsub
 generalize a.toTr.atom = aa at *
 generalize b.toTr.atom = ab at *
 generalize x.toTr.atom = ax at *
 generalize St [114] = y at *
 generalize St [43] = x0 at *
 go_enter Tryz.func81, Tryz.ntmps81
 go_wp2_with (go_at_call 140; (with_reducible refine (HF.out _ (up_alloc (up1 w _) _)).mono ?_); rintro e w1 ⟨rfl, hb1⟩; have K0 := block_up hb1 (old2 w (.cells #[.string xt, .slice At nt ct0] 59) (.cells #[.string (St []), .slice (some ⟨bv, ov, none⟩) 2 cv] 59)); have K1 := block_up hb1 (new2 w (.cells #[.string xt, .slice At nt ct0] 59) (.cells #[.string (St []), .slice (some ⟨bv, ov, none⟩) 2 cv] 59)); have r0 : w1.cell? ⟨w.heap.size, 0, none⟩ = some (.string xt) := block_cell K0 0; have r1 : w1.cell? ⟨w.heap.size, 1, none⟩ = some (.slice At nt ct0) := block_cell K0 1; have d0 : w1.cell? ⟨w.heap.size + 1, 0, none⟩ = some (.string (St [])) := block_cell K1 0; have g0 := block_free K0 0; have g1 := block_free K0 1; have lr := lt_of_block K0; have HB1 := Lib.hid (up_trans (up_alloc (up1 w _) _) hb1); have HK0 := Lib.hid K0; have HK1 := Lib.hid K1; clear hb1 K0 K1)
 obtain ⟨BW, C0, C1⟩ := set_box HB1.out HK0.out HK1.out (.string (St [])) (.slice (some ⟨bl, o, none⟩) 3 cc)
 generalize ((w1.setCell ⟨w.heap.size, 0, none⟩ (.string (St []))).setCell ⟨w.heap.size, 1, none⟩ (.slice (some ⟨bl, o, none⟩) 3 cc)) = W1 at *
 have HBW := Lib.hid BW
 have HS : Hid (∀ w', Below W1.heap.size W1 w' -> w'.cell? ⟨w.heap.size, 0, none⟩ = some (.string (St [])) /\ w'.cell? ⟨w.heap.size, 1, none⟩ = some (.slice (some ⟨bl, o, none⟩) 3 cc) /\ w'.cell? ⟨w.heap.size + 1, 0, none⟩ = some (.string (St [])) /\ w'.cell? ⟨w.heap.size + 1, 1, none⟩ = some (.slice (some ⟨bv, ov, none⟩) 2 cv)) := fun w' h => ⟨cell_up h (block_cell C0 0), cell_up h (block_cell C0 1), cell_up h (block_cell C1 0), cell_up h (block_cell C1 1)⟩
 obtain ⟨s0, s1, s2, s3⟩ := HS.out W1 (Below.refl _ _)
 clear C0 C1 BW r0 r1 g0 g1 lr HK0 HK1 HB1
 refine wp_region_noPanic ?_
 refine wp_region_held_drew (S := (fun w' => w'.cell? ⟨w.heap.size, 0, none⟩ = some (.string (St [])) /\ w'.cell? ⟨w.heap.size, 1, none⟩ = some (.slice (some ⟨bl, o, none⟩) 3 cc) /\ w'.cell? ⟨w.heap.size + 1, 0, none⟩ = some (.string (St [])) /\ w'.cell? ⟨w.heap.size + 1, 1, none⟩ = some (.slice (some ⟨bv, ov, none⟩) 2 cv))) (by kernel_rfl) (by exact HS.out _ (up_drew (Below.refl _ _))) (fun hHeld => ?_)
 refine tq 0 rfl ?_
 refine tq 2 rfl ?_
 refine tz 1 rfl fun K hK => ?_
 go_simp
 go_at_call 125
 (with_reducible refine (HH.out _ (up_drew HBW.out)).mono ?_)
 rintro e w2 ⟨rfl, hb2⟩
 have K2 : Hid (Below W1.heap.size W1 w2) := up_trans (up_drew (Below.refl _ _)) hb2
 clear hb2
 refine hK.out _ _ (by exact HS.out _ K2.out) (fun hHeld => ?_)
 clear hK
 try simp only [Act.put, zA, zB, zC, zD, zE, zF]
 refine tz 3 rfl fun K hK => ?_
 go_simp
 go_at_call 125
 (with_reducible refine (HHV.out _ (up_trans HBW.out K2.out)).mono ?_)
 rintro e w3 ⟨rfl, hb3⟩
 have K3 : Hid (Below W1.heap.size W1 w3) := up_trans K2.out hb3
 obtain ⟨f0, f1, f2, f3⟩ := HS.out w3 K3.out
 clear hb3
 refine hK.out _ _ (by exact HS.out _ K3.out) (fun hHeld => ?_)
 clear hK
 try simp only [Act.put, zA, zB, zC, zD, zE, zF]
 refine tq 4 rfl ?_
 refine wpAnyH_done (by kernel_rfl) ?_ _
 refine NoPanic.normal ?_
 go_wp2
 have HS2 : Hid (∀ w', Below W1.heap.size W1 w' -> w'.cell? ⟨w.heap.size, 0, none⟩ = some (.string (St [])) /\ w'.cell? ⟨w.heap.size, 1, none⟩ = some (.slice (some ⟨bl, o, none⟩) 3 cc) /\ w'.cell? ⟨w.heap.size + 1, 0, none⟩ = some (.string (St [])) /\ w'.cell? ⟨w.heap.size + 1, 1, none⟩ = some (.slice (some ⟨bv, ov, none⟩) 2 cv) /\ w'.cell? ⟨bl, o + 4, none⟩ = some (.string (St ab)) /\ w'.cell? ⟨bl, o + 5, none⟩ = some (.slice A4 n4 c4) /\ w'.cell? ⟨bv, ov + 2, none⟩ = some (.string (St ax)) /\ w'.cell? ⟨bv, ov + 3, none⟩ = some (.slice A5 n5 c5)) := fun w' h => by
  obtain ⟨_, _, d2, d3, _, _⟩ := HC.out w' (up_trans HBW.out h)
  obtain ⟨e2, e3, _⟩ := HCV.out w' (up_trans HBW.out h)
  obtain ⟨u0, u1, u2, u3⟩ := HS.out w' h
  exact ⟨u0, u1, u2, u3, d2, d3, e2, e3⟩
 refine wp_region_noPanic ?_
 refine wp_region_held_drew (S := (fun w' => w'.cell? ⟨w.heap.size, 0, none⟩ = some (.string (St [])) /\ w'.cell? ⟨w.heap.size, 1, none⟩ = some (.slice (some ⟨bl, o, none⟩) 3 cc) /\ w'.cell? ⟨w.heap.size + 1, 0, none⟩ = some (.string (St [])) /\ w'.cell? ⟨w.heap.size + 1, 1, none⟩ = some (.slice (some ⟨bv, ov, none⟩) 2 cv) /\ w'.cell? ⟨bl, o + 4, none⟩ = some (.string (St ab)) /\ w'.cell? ⟨bl, o + 5, none⟩ = some (.slice A4 n4 c4) /\ w'.cell? ⟨bv, ov + 2, none⟩ = some (.string (St ax)) /\ w'.cell? ⟨bv, ov + 3, none⟩ = some (.slice A5 n5 c5))) (by kernel_rfl) (by exact HS2.out _ (up_drew K3.out)) (fun hHeld => ?_)
 refine tq 0 rfl ?_
 refine tq 1 rfl ?_
 refine tq 2 rfl ?_
 refine tq 3 rfl ?_
 refine tq 4 rfl ?_
 refine tq 5 rfl ?_
 refine tq 6 rfl ?_
 refine tq 7 rfl ?_
 refine tq 8 rfl ?_
 refine tq 9 rfl ?_
 refine tz 10 rfl fun K hK => ?_
 go_simp
 go_at_call 81
 (with_reducible refine (HIS.out _ (up_drew (up_trans HBW.out K3.out))).mono ?_)
 rintro e w4 ⟨rfl, hb4⟩
 have K4 : Hid (Below W1.heap.size W1 w4) := up_trans (up_trans K3.out (up_drew (Below.refl _ _))) hb4
 clear hb4
 refine hK.out _ _ (by exact HS2.out _ K4.out) (fun hHeld => ?_)
 clear hK
 try simp only [Act.put, zA, zB, zC, zD, zE, zF]
 refine tq 11 rfl ?_
 refine wpAnyH_done (by kernel_rfl) ?_ _
 refine NoPanic.normal ?_
 go_wp2
 go_ret
 exact ⟨rfl, up_trans HBW.out K4.out⟩
theorem l2Is_pp (x z : V) (a b : NT) (hsub : LT x) (hsub2 : LT z) : LIs (.p x z) (.prod a b) := by
 intro t env A c vt vv w n env' hfnd hT hE hV hB ht3 hlen hvok hn0 hn1
 obtain ⟨hB', ht3', hlen', hno, _⟩ := fnd_spec hB t ht3 hlen
 obtain ⟨P, m, cc, A', c'', hT', hE', HF⟩ := l2Find_at t env A c vt w hT hE hB ht3
 rw [hfnd] at hT' hE' HF hB' ht3' hlen' hno
 simp only at hT' hE' HF hB' ht3' hlen' hno
 have hs : (NT.prod a b).toTr = .mk [] [.mk [42] [], a.toTr, b.toTr] := rfl
 rw [hs] at hT' HF
 simp only [Tr.atom] at hT' HF
 obtain ⟨bl, o, ct, hag, A2, n2, cc2, A4, n4, c4, HC, HH⟩ := three_cells hT'
 obtain ⟨_, h1, h2, h3⟩ := agg_inj hag
 subst h1 h2 h3
 obtain ⟨xt, At, nt, ct0, rfl⟩ := hT.form
 obtain ⟨bv, ov, cv, rfl, A5, n5, c5, A6, n6, c6, HCV, HHV⟩ := three_cells hV
 have HIS : Hid (∀ w1, Below w.heap.size w w1 -> Calls Tryz.prog 81 #[.agg #[.string (St a.toTr.atom), .slice A2 n2 cc2], .slice A' env'.length c'', .agg #[.string (St x.toTr.atom), .slice A5 n5 c5], .int .i64 n] w1 fun e w' => e = .returned (.bool (x.isOfN n env' a)) /\ Below w1.heap.size w1 w') := fun w1 h => hsub a env' A' c'' _ _ w1 n (HC.out w1 h).2.2.2.2.1.out (hE'.up h) (HCV.out w1 h).2.2.2.2.1.out hB' ht3'.1 (by simp only [NT.atoms] at hlen'; omega) hvok.1 hn0 hn1
 have HIS2 : Hid (∀ w1, Below w.heap.size w w1 -> Calls Tryz.prog 81 #[.agg #[.string (St b.toTr.atom), .slice A4 n4 c4], .slice A' env'.length c'', .agg #[.string (St z.toTr.atom), .slice A6 n6 c6], .int .i64 n] w1 fun e w' => e = .returned (.bool (z.isOfN n env' b)) /\ Below w1.heap.size w1 w') := fun w1 h => hsub2 b env' A' c'' _ _ w1 n (HC.out w1 h).2.2.2.2.2.out (hE'.up h) (HCV.out w1 h).2.2.2.2.2.out hB' ht3'.2 (by simp only [NT.atoms] at hlen'; omega) hvok.2 hn0 hn1
 show Calls _ _ _ _ (fun e w' => e = .returned (.bool (x.isOfN n env' a && z.isOfN n env' b)) /\ _)
 generalize x.isOfN n env' a = bx at *
 generalize z.isOfN n env' b = bz at *
 have q9 : ¬ 9223372036854775807 < (St [42]).size + (St [112]).size := by decide
 have q0 : ((St [42] ++ St [112]).toList == [43, 108]) = false := by kernel_rfl
 have q1 : ((St [42] ++ St [112]).toList == [43, 114]) = false := by kernel_rfl
 have q2 : ((St [42] ++ St [112]).toList == [42, 112]) = true := by kernel_rfl
 clear hT hE hV hB ht3 hlen hvok hT' hE' hs hfnd hB' ht3' hlen' hno hn0 hn1 hag hsub hsub2
 generalize a.toTr.atom = aa at *
 generalize b.toTr.atom = ab at *
 generalize x.toTr.atom = ax at *
 generalize z.toTr.atom = az at *
 generalize St [112] = y at *
 generalize St [42] = x0 at *
 go_enter Tryz.func81, Tryz.ntmps81
 go_wp2_with (go_at_call 140; (with_reducible refine (HF.out _ (up_alloc (up1 w _) _)).mono ?_); rintro e w1 ⟨rfl, hb1⟩; have K0 := block_up hb1 (old2 w (.cells #[.string xt, .slice At nt ct0] 59) (.cells #[.string (St []), .slice (some ⟨bv, ov, none⟩) 3 cv] 59)); have K1 := block_up hb1 (new2 w (.cells #[.string xt, .slice At nt ct0] 59) (.cells #[.string (St []), .slice (some ⟨bv, ov, none⟩) 3 cv] 59)); have r0 : w1.cell? ⟨w.heap.size, 0, none⟩ = some (.string xt) := block_cell K0 0; have r1 : w1.cell? ⟨w.heap.size, 1, none⟩ = some (.slice At nt ct0) := block_cell K0 1; have d0 : w1.cell? ⟨w.heap.size + 1, 0, none⟩ = some (.string (St [])) := block_cell K1 0; have g0 := block_free K0 0; have g1 := block_free K0 1; have lr := lt_of_block K0; have HB1 := Lib.hid (up_trans (up_alloc (up1 w _) _) hb1); have HK0 := Lib.hid K0; have HK1 := Lib.hid K1; clear hb1 K0 K1)
 obtain ⟨BW, C0, C1⟩ := set_box HB1.out HK0.out HK1.out (.string (St [])) (.slice (some ⟨bl, o, none⟩) 3 cc)
 generalize ((w1.setCell ⟨w.heap.size, 0, none⟩ (.string (St []))).setCell ⟨w.heap.size, 1, none⟩ (.slice (some ⟨bl, o, none⟩) 3 cc)) = W1 at *
 have HBW := Lib.hid BW
 have HS : Hid (∀ w', Below W1.heap.size W1 w' -> w'.cell? ⟨w.heap.size, 0, none⟩ = some (.string (St [])) /\ w'.cell? ⟨w.heap.size, 1, none⟩ = some (.slice (some ⟨bl, o, none⟩) 3 cc) /\ w'.cell? ⟨w.heap.size + 1, 0, none⟩ = some (.string (St [])) /\ w'.cell? ⟨w.heap.size + 1, 1, none⟩ = some (.slice (some ⟨bv, ov, none⟩) 3 cv)) := fun w' h => ⟨cell_up h (block_cell C0 0), cell_up h (block_cell C0 1), cell_up h (block_cell C1 0), cell_up h (block_cell C1 1)⟩
 obtain ⟨s0, s1, s2, s3⟩ := HS.out W1 (Below.refl _ _)
 clear C0 C1 BW r0 r1 g0 g1 lr HK0 HK1 HB1
 refine wp_region_noPanic ?_
 refine wp_region_held_drew (S := (fun w' => w'.cell? ⟨w.heap.size, 0, none⟩ = some (.string (St [])) /\ w'.cell? ⟨w.heap.size, 1, none⟩ = some (.slice (some ⟨bl, o, none⟩) 3 cc) /\ w'.cell? ⟨w.heap.size + 1, 0, none⟩ = some (.string (St [])) /\ w'.cell? ⟨w.heap.size + 1, 1, none⟩ = some (.slice (some ⟨bv, ov, none⟩) 3 cv))) (by kernel_rfl) (by exact HS.out _ (up_drew (Below.refl _ _))) (fun hHeld => ?_)
 refine tq 0 rfl ?_
 refine tq 2 rfl ?_
 refine tz 1 rfl fun K hK => ?_
 go_simp
 go_at_call 125
 (with_reducible refine (HH.out _ (up_drew HBW.out)).mono ?_)
 rintro e w2 ⟨rfl, hb2⟩
 have K2 : Hid (Below W1.heap.size W1 w2) := up_trans (up_drew (Below.refl _ _)) hb2
 clear hb2
 refine hK.out _ _ (by exact HS.out _ K2.out) (fun hHeld => ?_)
 clear hK
 try simp only [Act.put, zA, zB, zC, zD, zE, zF]
 refine tz 3 rfl fun K hK => ?_
 go_simp
 go_at_call 125
 (with_reducible refine (HHV.out _ (up_trans HBW.out K2.out)).mono ?_)
 rintro e w3 ⟨rfl, hb3⟩
 have K3 : Hid (Below W1.heap.size W1 w3) := up_trans K2.out hb3
 obtain ⟨f0, f1, f2, f3⟩ := HS.out w3 K3.out
 clear hb3
 refine hK.out _ _ (by exact HS.out _ K3.out) (fun hHeld => ?_)
 clear hK
 try simp only [Act.put, zA, zB, zC, zD, zE, zF]
 refine tq 4 rfl ?_
 refine wpAnyH_done (by kernel_rfl) ?_ _
 refine NoPanic.normal ?_
 go_wp2
 have HS2 : Hid (∀ w', Below W1.heap.size W1 w' -> w'.cell? ⟨w.heap.size, 0, none⟩ = some (.string (St [])) /\ w'.cell? ⟨w.heap.size, 1, none⟩ = some (.slice (some ⟨bl, o, none⟩) 3 cc) /\ w'.cell? ⟨w.heap.size + 1, 0, none⟩ = some (.string (St [])) /\ w'.cell? ⟨w.heap.size + 1, 1, none⟩ = some (.slice (some ⟨bv, ov, none⟩) 3 cv) /\ w'.cell? ⟨bl, o + 2, none⟩ = some (.string (St aa)) /\ w'.cell? ⟨bl, o + 3, none⟩ = some (.slice A2 n2 cc2) /\ w'.cell? ⟨bl, o + 4, none⟩ = some (.string (St ab)) /\ w'.cell? ⟨bl, o + 5, none⟩ = some (.slice A4 n4 c4) /\ w'.cell? ⟨bv, ov + 2, none⟩ = some (.string (St ax)) /\ w'.cell? ⟨bv, ov + 3, none⟩ = some (.slice A5 n5 c5) /\ w'.cell? ⟨bv, ov + 4, none⟩ = some (.string (St az)) /\ w'.cell? ⟨bv, ov + 5, none⟩ = some (.slice A6 n6 c6)) := fun w' h => by
  obtain ⟨d2, d3, d4, d5, _, _⟩ := HC.out w' (up_trans HBW.out h)
  obtain ⟨e2, e3, e4, e5, _, _⟩ := HCV.out w' (up_trans HBW.out h)
  obtain ⟨u0, u1, u2, u3⟩ := HS.out w' h
  exact ⟨u0, u1, u2, u3, d2, d3, d4, d5, e2, e3, e4, e5⟩
 cases bx with
 | true =>
  refine wp_region_noPanic ?_
  refine wp_region_held_drew (S := (fun w' => w'.cell? ⟨w.heap.size, 0, none⟩ = some (.string (St [])) /\ w'.cell? ⟨w.heap.size, 1, none⟩ = some (.slice (some ⟨bl, o, none⟩) 3 cc) /\ w'.cell? ⟨w.heap.size + 1, 0, none⟩ = some (.string (St [])) /\ w'.cell? ⟨w.heap.size + 1, 1, none⟩ = some (.slice (some ⟨bv, ov, none⟩) 3 cv) /\ w'.cell? ⟨bl, o + 2, none⟩ = some (.string (St aa)) /\ w'.cell? ⟨bl, o + 3, none⟩ = some (.slice A2 n2 cc2) /\ w'.cell? ⟨bl, o + 4, none⟩ = some (.string (St ab)) /\ w'.cell? ⟨bl, o + 5, none⟩ = some (.slice A4 n4 c4) /\ w'.cell? ⟨bv, ov + 2, none⟩ = some (.string (St ax)) /\ w'.cell? ⟨bv, ov + 3, none⟩ = some (.slice A5 n5 c5) /\ w'.cell? ⟨bv, ov + 4, none⟩ = some (.string (St az)) /\ w'.cell? ⟨bv, ov + 5, none⟩ = some (.slice A6 n6 c6))) (by kernel_rfl) (by exact HS2.out _ (up_drew K3.out)) (fun hHeld => ?_)
  refine tq 0 rfl ?_
  refine tq 1 rfl ?_
  refine tq 2 rfl ?_
  refine tq 3 rfl ?_
  refine tq 4 rfl ?_
  refine tq 5 rfl ?_
  refine tq 6 rfl ?_
  refine tq 7 rfl ?_
  refine tq 8 rfl ?_
  refine tq 9 rfl ?_
  refine tz 10 rfl fun K hK => ?_
  go_simp
  go_at_call 81
  (with_reducible refine (HIS.out _ (up_drew (up_trans HBW.out K3.out))).mono ?_)
  rintro e w4 ⟨rfl, hb4⟩
  have K4 : Hid (Below W1.heap.size W1 w4) := up_trans (up_trans K3.out (up_drew (Below.refl _ _))) hb4
  clear hb4
  refine hK.out _ _ (by exact HS2.out _ K4.out) (fun hHeld => ?_)
  clear hK
  try simp only [Act.put, zA, zB, zC, zD, zE, zF]
  refine tq 11 rfl ?_
  refine tq 12 rfl ?_
  refine tq 13 rfl ?_
  refine tq 14 rfl ?_
  refine tq 15 rfl ?_
  refine tq 16 rfl ?_
  refine tq 17 rfl ?_
  refine tq 18 rfl ?_
  refine tq 19 rfl ?_
  refine tq 20 rfl ?_
  refine tq 21 rfl ?_
  refine tz 22 rfl fun K hK => ?_
  go_simp
  go_at_call 81
  (with_reducible refine (HIS2.out _ (up_trans HBW.out K4.out)).mono ?_)
  rintro e w5 ⟨rfl, hb5⟩
  have K5 : Hid (Below W1.heap.size W1 w5) := up_trans K4.out hb5
  clear hb5
  refine hK.out _ _ (by exact HS2.out _ K5.out) (fun hHeld => ?_)
  clear hK
  try simp only [Act.put, zA, zB, zC, zD, zE, zF]
  refine tq 23 rfl ?_
  refine tq 24 rfl ?_
  refine wpAnyH_done (by kernel_rfl) ?_ _
  refine NoPanic.normal ?_
  go_wp2
  go_ret
  exact ⟨by cases bz <;> rfl, up_trans HBW.out K5.out⟩
 | false =>
  refine wp_region_noPanic ?_
  refine wp_region_held_drew (S := (fun w' => w'.cell? ⟨w.heap.size, 0, none⟩ = some (.string (St [])) /\ w'.cell? ⟨w.heap.size, 1, none⟩ = some (.slice (some ⟨bl, o, none⟩) 3 cc) /\ w'.cell? ⟨w.heap.size + 1, 0, none⟩ = some (.string (St [])) /\ w'.cell? ⟨w.heap.size + 1, 1, none⟩ = some (.slice (some ⟨bv, ov, none⟩) 3 cv) /\ w'.cell? ⟨bl, o + 2, none⟩ = some (.string (St aa)) /\ w'.cell? ⟨bl, o + 3, none⟩ = some (.slice A2 n2 cc2) /\ w'.cell? ⟨bl, o + 4, none⟩ = some (.string (St ab)) /\ w'.cell? ⟨bl, o + 5, none⟩ = some (.slice A4 n4 c4) /\ w'.cell? ⟨bv, ov + 2, none⟩ = some (.string (St ax)) /\ w'.cell? ⟨bv, ov + 3, none⟩ = some (.slice A5 n5 c5) /\ w'.cell? ⟨bv, ov + 4, none⟩ = some (.string (St az)) /\ w'.cell? ⟨bv, ov + 5, none⟩ = some (.slice A6 n6 c6))) (by kernel_rfl) (by exact HS2.out _ (up_drew K3.out)) (fun hHeld => ?_)
  refine tq 0 rfl ?_
  refine tq 1 rfl ?_
  refine tq 2 rfl ?_
  refine tq 3 rfl ?_
  refine tq 4 rfl ?_
  refine tq 5 rfl ?_
  refine tq 6 rfl ?_
  refine tq 7 rfl ?_
  refine tq 8 rfl ?_
  refine tq 9 rfl ?_
  refine tz 10 rfl fun K hK => ?_
  go_simp
  go_at_call 81
  (with_reducible refine (HIS.out _ (up_drew (up_trans HBW.out K3.out))).mono ?_)
  rintro e w4 ⟨rfl, hb4⟩
  have K4 : Hid (Below W1.heap.size W1 w4) := up_trans (up_trans K3.out (up_drew (Below.refl _ _))) hb4
  clear hb4
  refine hK.out _ _ (by exact HS2.out _ K4.out) (fun hHeld => ?_)
  clear hK
  try simp only [Act.put, zA, zB, zC, zD, zE, zF]
  refine tq 11 rfl ?_
  refine tn 12 rfl ?_
  try simp only [Act.put, zA, zB, zC, zD, zE, zF]
  refine tn 13 rfl ?_
  try simp only [Act.put, zA, zB, zC, zD, zE, zF]
  refine tn 14 rfl ?_
  try simp only [Act.put, zA, zB, zC, zD, zE, zF]
  refine tn 15 rfl ?_
  try simp only [Act.put, zA, zB, zC, zD, zE, zF]
  refine tn 16 rfl ?_
  try simp only [Act.put, zA, zB, zC, zD, zE, zF]
  refine tn 17 rfl ?_
  try simp only [Act.put, zA, zB, zC, zD, zE, zF]
  refine tn 18 rfl ?_
  try simp only [Act.put, zA, zB, zC, zD, zE, zF]
  refine tn 19 rfl ?_
  try simp only [Act.put, zA, zB, zC, zD, zE, zF]
  refine tn 20 rfl ?_
  try simp only [Act.put, zA, zB, zC, zD, zE, zF]
  refine tn 21 rfl ?_
  try simp only [Act.put, zA, zB, zC, zD, zE, zF]
  refine tn 22 rfl ?_
  try simp only [Act.put, zA, zB, zC, zD, zE, zF]
  refine tq 23 rfl ?_
  refine tq 24 rfl ?_
  refine wpAnyH_done (by kernel_rfl) ?_ _
  refine NoPanic.normal ?_
  go_wp2
  go_ret
  exact ⟨rfl, up_trans HBW.out K4.out⟩
theorem l2Is_rf (x : V) (s : List UInt8) (a : NT) (hsub : LT x) : LIs (.f x) (.loop s a) := by
 intro t env A c vt vv w n env' hfnd hT hE hV hB ht3 hlen hvok hn0 hn1
 obtain ⟨hB', ht3', hlen', hno, _⟩ := fnd_spec hB t ht3 hlen
 obtain ⟨P, m, cc, A', c'', hT', hE', HF⟩ := l2Find_at t env A c vt w hT hE hB ht3
 rw [hfnd] at hT' hE' HF hB' ht3' hlen' hno
 simp only at hT' hE' HF hB' ht3' hlen' hno
 have hs : (NT.loop s a).toTr = .mk [] [.mk [114, 101, 99] [], .mk s [], a.toTr] := rfl
 rw [hs] at hT' HF
 simp only [Tr.atom] at hT' HF
 obtain ⟨bl, o, ct, hag, A2, n2, cc2, A4, n4, c4, HC, HH⟩ := three_cells hT'
 obtain ⟨_, h1, h2, h3⟩ := agg_inj hag
 subst h1 h2 h3
 obtain ⟨xt, At, nt, ct0, rfl⟩ := hT.form
 obtain ⟨bv, ov, cv, rfl, A5, n5, c5, HCV, HHV⟩ := two_cells hV
 have HIS : Hid (∀ w1 P4 m4 cc4 A4' c4', Below w.heap.size w w1 -> TAt w1 (fun _ => True) a.toTr (.agg #[.string (St a.toTr.atom), .slice P4 m4 cc4]) -> EnvAt w1 ((s, .loop s a) :: env') A4' -> Calls Tryz.prog 81 #[.agg #[.string (St a.toTr.atom), .slice P4 m4 cc4], .slice A4' (env'.length + 1) c4', .agg #[.string (St x.toTr.atom), .slice A5 n5 c5], .int .i64 n] w1 fun e w' => e = .returned (.bool (x.isOfN n ((s, .loop s a) :: env') a)) /\ Below w1.heap.size w1 w') := fun w1 P4 m4 cc4 A4' c4' h h1 h2 => hsub a ((s, .loop s a) :: env') A4' c4' _ _ w1 n h1 h2 (HCV.out w1 h).2.2.out (hB'.cons ht3' hlen') ht3'.2 (by simp only [NT.atoms] at hlen'; simp; omega) hvok hn0 hn1
 have HEN : Hid (∀ w1, Below w.heap.size w w1 -> Calls Tryz.prog 141 #[.agg #[.string (St []), .slice (some ⟨bl, o, none⟩) 3 cc], .slice A' env'.length c''] w1 (fun e w' => Below w1.heap.size w1 w' /\ ∃ P n cc A c', e = .returned (.tuple #[.agg #[.string (St a.toTr.atom), .slice P n cc], .slice A (env'.length + 1) c']) /\ TAt w' (fun _ => True) a.toTr (.agg #[.string (St a.toTr.atom), .slice P n cc]) /\ EnvAt w' ((s, .loop s a) :: env') A)) := fun w1 h => l2Enter_any s a env' A' c'' _ w1 (hT'.up h) (hE'.up h) (by omega)
 show Calls _ _ _ _ (fun e w' => e = .returned (.bool (x.isOfN n ((s, .loop s a) :: env') a)) /\ _)
 generalize x.isOfN n ((s, .loop s a) :: env') a = bx at *
 have q9 : ¬ 9223372036854775807 < (St [114, 101, 99]).size + (St [102]).size := by decide
 have q0 : ((St [114, 101, 99] ++ St [102]).toList == [43, 108]) = false := by kernel_rfl
 have q1 : ((St [114, 101, 99] ++ St [102]).toList == [43, 114]) = false := by kernel_rfl
 have q2 : ((St [114, 101, 99] ++ St [102]).toList == [42, 112]) = false := by kernel_rfl
 have q3 : ((St [114, 101, 99] ++ St [102]).toList == [114, 101, 99, 102]) = true := by kernel_rfl
 clear hT hE hV hB ht3 hlen hvok hT' hE' hs hfnd hB' ht3' hlen' hno hn0 hn1 hag hsub
 generalize a.toTr.atom = aa at *
 generalize x.toTr.atom = ax at *
 generalize St [102] = y at *
 generalize St [114, 101, 99] = x0 at *
 go_enter Tryz.func81, Tryz.ntmps81
 go_wp2_with (go_at_call 140; (with_reducible refine (HF.out _ (up_alloc (up1 w _) _)).mono ?_); rintro e w1 ⟨rfl, hb1⟩; have K0 := block_up hb1 (old2 w (.cells #[.string xt, .slice At nt ct0] 59) (.cells #[.string (St []), .slice (some ⟨bv, ov, none⟩) 2 cv] 59)); have K1 := block_up hb1 (new2 w (.cells #[.string xt, .slice At nt ct0] 59) (.cells #[.string (St []), .slice (some ⟨bv, ov, none⟩) 2 cv] 59)); have r0 : w1.cell? ⟨w.heap.size, 0, none⟩ = some (.string xt) := block_cell K0 0; have r1 : w1.cell? ⟨w.heap.size, 1, none⟩ = some (.slice At nt ct0) := block_cell K0 1; have d0 : w1.cell? ⟨w.heap.size + 1, 0, none⟩ = some (.string (St [])) := block_cell K1 0; have g0 := block_free K0 0; have g1 := block_free K0 1; have lr := lt_of_block K0; have HB1 := Lib.hid (up_trans (up_alloc (up1 w _) _) hb1); have HK0 := Lib.hid K0; have HK1 := Lib.hid K1; clear hb1 K0 K1)
 obtain ⟨BW, C0, C1⟩ := set_box HB1.out HK0.out HK1.out (.string (St [])) (.slice (some ⟨bl, o, none⟩) 3 cc)
 generalize ((w1.setCell ⟨w.heap.size, 0, none⟩ (.string (St []))).setCell ⟨w.heap.size, 1, none⟩ (.slice (some ⟨bl, o, none⟩) 3 cc)) = W1 at *
 have HBW := Lib.hid BW
 have HS : Hid (∀ w', Below W1.heap.size W1 w' -> w'.cell? ⟨w.heap.size, 0, none⟩ = some (.string (St [])) /\ w'.cell? ⟨w.heap.size, 1, none⟩ = some (.slice (some ⟨bl, o, none⟩) 3 cc) /\ w'.cell? ⟨w.heap.size + 1, 0, none⟩ = some (.string (St [])) /\ w'.cell? ⟨w.heap.size + 1, 1, none⟩ = some (.slice (some ⟨bv, ov, none⟩) 2 cv)) := fun w' h => ⟨cell_up h (block_cell C0 0), cell_up h (block_cell C0 1), cell_up h (block_cell C1 0), cell_up h (block_cell C1 1)⟩
 obtain ⟨s0, s1, s2, s3⟩ := HS.out W1 (Below.refl _ _)
 clear C0 C1 BW r0 r1 g0 g1 lr HK0 HK1 HB1
 refine wp_region_noPanic ?_
 refine wp_region_held_drew (S := (fun w' => w'.cell? ⟨w.heap.size, 0, none⟩ = some (.string (St [])) /\ w'.cell? ⟨w.heap.size, 1, none⟩ = some (.slice (some ⟨bl, o, none⟩) 3 cc) /\ w'.cell? ⟨w.heap.size + 1, 0, none⟩ = some (.string (St [])) /\ w'.cell? ⟨w.heap.size + 1, 1, none⟩ = some (.slice (some ⟨bv, ov, none⟩) 2 cv))) (by kernel_rfl) (by exact HS.out _ (up_drew (Below.refl _ _))) (fun hHeld => ?_)
 refine tq 0 rfl ?_
 refine tq 2 rfl ?_
 refine tz 1 rfl fun K hK => ?_
 go_simp
 go_at_call 125
 (with_reducible refine (HH.out _ (up_drew HBW.out)).mono ?_)
 rintro e w2 ⟨rfl, hb2⟩
 have K2 : Hid (Below W1.heap.size W1 w2) := up_trans (up_drew (Below.refl _ _)) hb2
 clear hb2
 refine hK.out _ _ (by exact HS.out _ K2.out) (fun hHeld => ?_)
 clear hK
 try simp only [Act.put, zA, zB, zC, zD, zE, zF]
 refine tz 3 rfl fun K hK => ?_
 go_simp
 go_at_call 125
 (with_reducible refine (HHV.out _ (up_trans HBW.out K2.out)).mono ?_)
 rintro e w3 ⟨rfl, hb3⟩
 have K3 : Hid (Below W1.heap.size W1 w3) := up_trans K2.out hb3
 obtain ⟨f0, f1, f2, f3⟩ := HS.out w3 K3.out
 clear hb3
 refine hK.out _ _ (by exact HS.out _ K3.out) (fun hHeld => ?_)
 clear hK
 try simp only [Act.put, zA, zB, zC, zD, zE, zF]
 refine tq 4 rfl ?_
 refine wpAnyH_done (by kernel_rfl) ?_ _
 refine NoPanic.normal ?_
 go_wp2_with (go_at_call 141; (with_reducible refine (HEN.out _ (up_trans HBW.out K3.out)).mono ?_); rintro e w4 ⟨hb4, P4, m4, cc4, A4', c4', rfl, ht4, he4⟩; have K4 : Hid (Below W1.heap.size W1 w4) := up_trans K3.out hb4; have HT4 := Lib.hid ht4; have HE4 := Lib.hid he4; clear hb4 ht4 he4)
 have BB : Hid (Below w4.heap.size w4 (w4.alloc (.cells #[.string (St aa), .slice P4 m4 cc4] 59))) := up1 w4 _
 have CB := block_new w4 (.cells #[.string (St aa), .slice P4 m4 cc4] 59)
 generalize (w4.alloc (.cells #[.string (St aa), .slice P4 m4 cc4] 59)) = W5 at *
 have HS2 : Hid (∀ w', Below W5.heap.size W5 w' -> w'.cell? ⟨w4.heap.size, 0, none⟩ = some (.string (St aa)) /\ w'.cell? ⟨w4.heap.size, 1, none⟩ = some (.slice P4 m4 cc4) /\ w'.cell? ⟨w.heap.size + 1, 1, none⟩ = some (.slice (some ⟨bv, ov, none⟩) 2 cv) /\ w'.cell? ⟨bv, ov + 2, none⟩ = some (.string (St ax)) /\ w'.cell? ⟨bv, ov + 3, none⟩ = some (.slice A5 n5 c5)) := fun w' h => by
  obtain ⟨e2, e3, _⟩ := HCV.out w' (up_trans HBW.out (up_trans K4.out (up_trans BB.out h)))
  obtain ⟨_, _, _, u3⟩ := HS.out w' (up_trans K4.out (up_trans BB.out h))
  exact ⟨cell_up h (block_cell CB 0), cell_up h (block_cell CB 1), u3, e2, e3⟩
 refine wp_region_noPanic ?_
 refine wp_region_held_drew (S := (fun w' => w'.cell? ⟨w4.heap.size, 0, none⟩ = some (.string (St aa)) /\ w'.cell? ⟨w4.heap.size, 1, none⟩ = some (.slice P4 m4 cc4) /\ w'.cell? ⟨w.heap.size + 1, 1, none⟩ = some (.slice (some ⟨bv, ov, none⟩) 2 cv) /\ w'.cell? ⟨bv, ov + 2, none⟩ = some (.string (St ax)) /\ w'.cell? ⟨bv, ov + 3, none⟩ = some (.slice A5 n5 c5))) (by kernel_rfl) (by exact HS2.out _ (up_drew (Below.refl _ _))) (fun hHeld => ?_)
 refine tq 0 rfl ?_
 refine tq 1 rfl ?_
 refine tq 2 rfl ?_
 refine tq 3 rfl ?_
 refine tq 4 rfl ?_
 refine tq 5 rfl ?_
 refine tq 6 rfl ?_
 refine tz 7 rfl fun K hK => ?_
 go_simp
 go_at_call 81
 (with_reducible refine (HIS.out _ _ _ _ _ _ (up_trans HBW.out (up_trans K4.out (up_drew BB.out))) (TAt.up (up_drew BB.out) HT4.out) (EnvAt.up (up_drew BB.out) HE4.out)).mono ?_)
 rintro e w5 ⟨rfl, hb5⟩
 have K5 : Hid (Below W5.heap.size W5 w5) := up_trans (up_drew (Below.refl _ _)) hb5
 clear hb5
 refine hK.out _ _ (by exact HS2.out _ K5.out) (fun hHeld => ?_)
 clear hK
 try simp only [Act.put, zA, zB, zC, zD, zE, zF]
 refine tq 8 rfl ?_
 refine wpAnyH_done (by kernel_rfl) ?_ _
 refine NoPanic.normal ?_
 go_wp2
 go_ret
 exact ⟨rfl, up_trans HBW.out (up_trans K4.out (up_trans BB.out K5.out))⟩
theorem l2Is_any : ∀ (k : Nat) (v : V), v.nodes <= k -> LT v := by
 intro k
 induction k with
 | zero => intro v h; have : 1 <= v.nodes := by cases v <;> simp only [V.nodes] <;> omega
           omega
 | succ k ih =>
  intro v hk t env A c vt vv w n hT hE hV hB ht3 hlen hvok hn0 hn1
  have key : LIs v (fnd env t).1 := by
   generalize (fnd env t).1 = t'
   have hN : ∀ h a b, t'.toTr = .mk [] [.mk h [], a, b] -> ((St h ++ St v.hd).toList == [43, 108]) = false -> ((St h ++ St v.hd).toList == [43, 114]) = false -> ((St h ++ St v.hd).toList == [42, 112]) = false -> ((St h ++ St v.hd).toList == [114, 101, 99, 102]) = false -> h.length <= 10 -> (∀ (n : Int) (env' : List (List UInt8 × NT)), v.isOfN n env' t' = false) -> LIs v t' := fun h a b h1 h2 h3 h4 h5 h6 h7 => l2Is_none v t' h a b h1 h2 h3 h4 h5 h6 h7
   have hEL : ∀ (n : Int) (s : List UInt8), v.ok -> 0 <= n -> (decide (0 <= elemNum v.toTr.atom) && decide (elemNum v.toTr.atom <= n - 1)) = (match v with | .el e => decide ((elN e : Int) < n) | _ => false) := fun n s hv hn => by
    cases v with
    | el e =>
     obtain ⟨_, _, _, _, _, _, h9⟩ := elem_nums hv
     show (decide (0 <= elemNum e) && decide (elemNum e <= n - 1)) = decide ((elN e : Int) < n)
     rw [h9, Bool.eq_iff_iff]
     simp
     omega
    | u => rw [show elemNum (V.toTr .u).atom = -1 from elem_bad rfl]; simp
    | l a => rw [show elemNum (V.toTr (.l a)).atom = -1 from elem_bad rfl]; simp
    | r a => rw [show elemNum (V.toTr (.r a)).atom = -1 from elem_bad rfl]; simp
    | f a => rw [show elemNum (V.toTr (.f a)).atom = -1 from elem_bad rfl]; simp
    | p a b => rw [show elemNum (V.toTr (.p a b)).atom = -1 from elem_bad rfl]; simp
   cases t' with
   | zero =>
    refine l2Is_atom v .zero [48] rfl (by simp) fun n env' hn _ hv => ?_
    rw [if_neg (by simp), show paramB [48] = false from rfl, Bool.false_and]
    cases v <;> rfl
   | one =>
    refine l2Is_atom v .one [49] rfl (by simp) fun n env' hn _ hv => ?_
    rw [if_pos rfl]
    cases v with
    | el e =>
     have : ¬ e = [117] := by rintro rfl; cases hv
     simp [V.isOfN, V.toTr, Tr.atom, this]
    | _ => simp [V.isOfN, V.toTr, Tr.atom]
   | name s =>
    by_cases hs : s ≠ [] /\ s ≠ [49]
    · refine l2Is_atom v (.name s) s rfl hs.1 fun n env' hn hlk hv => ?_
      rw [if_neg hs.2, hEL n s hv hn]
      cases v <;> simp [V.isOfN, hlk s rfl]
    · intro t env A c vt vv w n env' hf hT hE hV hB ht3 hlen hvok hn0 hn1
      obtain ⟨_, h3, _⟩ := fnd_spec hB t ht3 hlen
      rw [hf] at h3
      have h3 : nmOk s := h3
      exact absurd ⟨h3.1, h3.2.2.1⟩ hs
   | sum a b =>
    cases v with
    | l x => exact l2Is_pl x a b (ih x (by simp only [V.nodes] at hk; omega))
    | r x => exact l2Is_pr x a b (ih x (by simp only [V.nodes] at hk; omega))
    | _ => exact hN [43] _ _ rfl (by kernel_rfl) (by kernel_rfl) (by kernel_rfl) (by kernel_rfl) (by decide) (fun _ _ => rfl)
   | prod a b =>
    cases v with
    | p x z => exact l2Is_pp x z a b (ih x (by simp only [V.nodes] at hk; omega)) (ih z (by simp only [V.nodes] at hk; omega))
    | _ => exact hN [42] _ _ rfl (by kernel_rfl) (by kernel_rfl) (by kernel_rfl) (by kernel_rfl) (by decide) (fun _ _ => rfl)
   | loop s a =>
    cases v with
    | f x => exact l2Is_rf x s a (ih x (by simp only [V.nodes] at hk; omega))
    | _ => exact hN [114, 101, 99] _ _ rfl (by kernel_rfl) (by kernel_rfl) (by kernel_rfl) (by kernel_rfl) (by decide) (fun _ _ => rfl)
  rw [(fnd_spec hB t ht3 hlen).2.2.2.2 n v]
  exact key t env A c vt vv w n _ rfl hT hE hV hB ht3 hlen hvok hn0 hn1
end Go.Proofs.YtpokompplapkhaaGreatDoor

