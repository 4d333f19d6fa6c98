/- The reference's l3Put, of both outcomes; l3Loop. -/
import Derived.Test.YtpokompplapkhaaGreatDoorSDer
namespace Go.Proofs.YtpokompplapkhaaGreatDoor
open Go.RowKit
set_option linter.unusedVariables false
set_option linter.unusedSimpArgs false

theorem set2_new {w : World} {b : Nat} {a0 a1 : Value} {t : TypeId} (h : w.heap[b]? = some (.cells #[a0, a1] t (0, 0))) (v0 v1 : Value) : ((w.setCell ⟨b, 0, none⟩ v0).setCell ⟨b, 1, none⟩ v1).heap[b]? = some (.cells #[v0, v1] t (0, 0)) := block_set (block_set h 0 v0) 1 v1
theorem DRes.small {n : NT} {x : List UInt8} {out : NT} (h : DRes n x out true) : out.atoms ≤ 400 := by
  have := (h.2.2.1 rfl).atoms _ rfl
  rw [NT.db_atoms] at this
  exact this
theorem list2P (h : List UInt8) (f2 : NT) (ta tb : Tr) (hf : f2.toTr = .mk [] [.mk h [], ta, tb]) (w5 : World) (x2 x5 : ByteArray) (B2 B5 : Option Addr) (n2 c2 n5 c5 : Nat) (P : Nat → Prop) (hP : ∀ k, w5.heap.size ≤ k → P k) (h1 : TAt w5 P ta (.agg #[.string x2, .slice B2 n2 c2])) (h2 : TAt w5 P tb (.agg #[.string x5, .slice B5 n5 c5])) :
    Calls Tryz.prog 71 #[.string (St h), .slice (some ⟨w5.heap.size, 0, none⟩) 2 2] (w5.alloc (.cells #[.string x2, .slice B2 n2 c2, .string x5, .slice B5 n5 c5] 59)) fun e w' => (∃ x A n c, e = .returned (.agg #[.string x, .slice A n c]) ∧ TAt w' P f2.toTr (.agg #[.string x, .slice A n c])) ∧ Below w5.heap.size w5 w' :=
  (list2 h f2 ta tb hf w5 x2 x5 B2 B5 n2 c2 n5 c5 P h1 h2).mono fun e w' ⟨⟨x, A, n, c, he, ht⟩, hb⟩ => ⟨⟨x, A, n, c, he, ht.weak fun k hk => hk.elim (fun h => hP k (Nat.le_of_lt h)) id⟩, hb⟩
theorem list2W (h : List UInt8) (f2 : NT) (ta tb : Tr) (hf : f2.toTr = .mk [] [.mk h [], ta, tb]) (W : World) (gp : Nat) (x2 x5 : ByteArray) (B2 B5 : Option Addr) (n2 c2 n5 c5 : Nat) (P : Nat → Prop) (hP : ∀ k, W.heap.size ≤ k → P k) (hr : W.heap[gp]? = some (.cells #[.string x2, .slice B2 n2 c2, .string x5, .slice B5 n5 c5] 59 (0, 0))) (h1 : TAt W P ta (.agg #[.string x2, .slice B2 n2 c2])) (h2 : TAt W P tb (.agg #[.string x5, .slice B5 n5 c5])) :
    Calls Tryz.prog 71 #[.string (St h), .slice (some ⟨gp, 0, none⟩) 2 2] W fun e w' => (∃ x A n c, e = .returned (.agg #[.string x, .slice A n c]) ∧ TAt w' P f2.toTr (.agg #[.string x, .slice A n c])) ∧ Below W.heap.size W w' := by
  refine (l1List_any h [ta, tb] gp 0 2 _ P W (trees2 h1 h2) (fun j u hu => ?_) (by simp) (by simp)).mono ?_
  · rw [Nat.zero_add, block_cell hr j]
    simpa using hu
  · rintro e w' ⟨⟨x, A, n, c, he, htt⟩, hb⟩
    refine ⟨⟨x, A, n, c, he, ?_⟩, hb⟩
    rw [hf]
    exact htt.weak fun k hk => hk.elim (fun h => hP k h) id
theorem cell_set2 {w : World} {b g i : Nat} {v0 v1 u : Value} (h : w.cell? ⟨g, i, none⟩ = some u) (hne : g ≠ b) : ((w.setCell ⟨b, 0, none⟩ v0).setCell ⟨b, 1, none⟩ v1).cell? ⟨g, i, none⟩ = some u := by
  simp only [World.cell?] at h ⊢
  rw [set2_block w v0 v1 hne]
  exact h
/-- What l3Put gives. -/
def PuPost (w : World) (P : Nat → Prop) (nm : List UInt8) (u n : NT) (e : Ending) (w' : World) : Prop :=
  ∃ x A m c, e = .returned (.tuple #[.agg #[.string x, .slice A m c], .bool (fitsN nm u n)]) ∧ (fitsN nm u n = true → TAt w' P (subN nm u n).toTr (.agg #[.string x, .slice A m c])) ∧ Below w.heap.size w w'
theorem l3Put_any (nm : List UInt8) (hnm : nmOk nm) (u n : NT) (hn : n.ok3) (hna : n.atoms ≤ 400) (hu3 : u.ok3) (hua : u.atoms ≤ 400) (v vu : Value) (w : World) (P : Nat → Prop) (hP : ∀ k, w.heap.size ≤ k → P k) (hp : TAt w P n.toTr v) (hu : TAt w P u.toTr vu) :
    Calls Tryz.prog 167 #[v, .string (St nm), vu] w (PuPost w P nm u n) := by
  unfold PuPost
  cases hf : fitsN nm u n with
  | false => exact (l3Put_no nm hnm u n hn hna hu3 hua hf v vu w P hP hp hu).mono fun e w' ⟨⟨x, A, m, c, h⟩, hb⟩ => ⟨x, A, m, c, h, (fun h => nomatch h), hb⟩
  | true => exact (l3Put_yes nm hnm u n hn hna hu3 hua hf v vu w P hP hp hu).mono fun e w' ⟨⟨x, A, m, c, h, ht⟩, hb⟩ => ⟨x, A, m, c, h, fun _ => ht, hb⟩
def LV (x : List UInt8) (n : NT) : Prop := ∀ (v : Value) (w : World) (P : Nat → Prop), (∀ k, w.heap.size ≤ k → P k) → TAt w P n.toTr v → Calls Tryz.prog 159 #[v, .string (St x)] w (DvPost w P n x)
/-- The parts of a rec, in whatever world follows. -/
theorem rec_parts {w : World} {ok : Nat → Prop} {s : List UInt8} {a : NT} {v : Value} (hp : TAt w ok (NT.loop s a).toTr v) :
    ∃ bl o c, v = .agg #[.string (St []), .slice (some ⟨bl, o, none⟩) 3 c] ∧ ∃ A4 n4 c4, ∀ w1, Below w.heap.size w w1 → (w1.cell? ⟨bl, o + 2, none⟩ = some (.string (St s)) ∧ w1.cell? ⟨bl, o + 4, none⟩ = some (.string (St a.toTr.atom)) ∧ w1.cell? ⟨bl, o + 5, none⟩ = some (.slice A4 n4 c4)) ∧
      TAt w1 ok a.toTr (.agg #[.string (St a.toTr.atom), .slice A4 n4 c4]) ∧ TAt w1 ok (NT.loop s a).toTr v := by
  have hp0 := hp
  obtain ⟨A, c, rfl, hr⟩ := hp.parts
  obtain ⟨bl, o, A', c', rfl, d0, _, _, _, hr⟩ := hr.uncons
  obtain ⟨A2, n2, c2, d2, d3, ha, hr⟩ := hr.at3
  obtain ⟨A4, n4, c4, d4, d5, hb, _⟩ := hr.at3
  exact ⟨bl, o, c, rfl, A4, n4, c4, fun w1 hb' => ⟨⟨cell_up hb' d2, cell_up hb' d4, cell_up hb' d5⟩, hb.up hb', hp0.up hb'⟩⟩
/-- What follows where both fit. -/
theorem DRes.rec_next {n : NT} {x l : List UInt8} {b oa ob : NT} (hn : n.ok3) (hna : n.atoms ≤ 400) (hok : (NT.loop l b).ok3) (hat : (NT.loop l b).atoms = n.atoms) (hlx : l ≠ x) (hdb : n.db [] = .loop (b.db [l])) (hlp : paramB l = false) (hla : ¬ (b.db [l]).has l)
    (hc : DRes b x oa true) (hd : DRes b l ob true) (h1 : fitsN l (.loop l b) oa = true) (h2 : fitsN l (.loop l b) ob = true) :
    ∃ c d F K, c = subN l (.loop l b) oa ∧ d = subN l (.loop l b) ob ∧ F = c.fr [] (d.fr [] []) ∧ K = freshN F 0 ∧ F.length ≤ 800 ∧ K ≤ 800 ∧ tN K ∉ F ∧ c.ok3 ∧ d.ok3 ∧ c.atoms ≤ 400 ∧ d.atoms ≤ 400 ∧
      DRes n x (.loop (tN K) (.sum c (.prod d (.name (tN K))))) (decide ((NT.loop (tN K) (.sum c (.prod d (.name (tN K))))).atoms ≤ 400)) := by
  obtain ⟨c, hcd⟩ : ∃ c, c = subN l (.loop l b) oa := ⟨_, rfl⟩
  obtain ⟨d, hdd⟩ : ∃ d, d = subN l (.loop l b) ob := ⟨_, rfl⟩
  obtain ⟨F, hF⟩ : ∃ F, F = c.fr [] (d.fr [] []) := ⟨_, rfl⟩
  obtain ⟨K, hK⟩ : ∃ K, K = freshN F 0 := ⟨_, rfl⟩
  have hKn : tN K ∉ F := by rw [hK]; exact freshN_not F 0
  have hle : K ≤ 0 + F.length := by rw [hK]; exact (fresh_le F F.length 0).2
  have hfd := fr_len d [] []
  have hfc := fr_len c [] (d.fr [] [])
  simp only [List.length_nil] at hfd
  have key := DRes.rec_yes hn hna hok hat hlx hdb hlp hla hc hd h1 h2 c d F K hcd hdd hF hKn
  have hsz : c.atoms ≤ 400 ∧ d.atoms ≤ 400 := by
    have e1 := fits_put l (.loop l b) oa hc.1
    have e2 := fits_put l (.loop l b) ob hd.1
    rw [h1] at e1
    rw [h2] at e2
    have e1 := of_decide_eq_true e1.symm
    have e2 := of_decide_eq_true e2.symm
    rw [← subN_db l _ _ hc.1, ← hcd, NT.db_atoms] at e1
    rw [← subN_db l _ _ hd.1, ← hdd, NT.db_atoms] at e2
    exact ⟨e1, e2⟩
  rw [← hF] at hfc
  obtain ⟨⟨k1, k2, k3, k4⟩, k5⟩ := key (by omega)
  exact ⟨c, d, F, K, hcd, hdd, hF, hK, by omega, by omega, hKn, k1, k2, k3, k4, k5⟩

set_option maxHeartbeats 8000000 in
set_option maxRecDepth 100000 in
theorem l3Loop_any (x : List UInt8) (hx : nmOk x) (s : List UInt8) (a : NT) (h : (NT.loop s a).ok3) (ha : (NT.loop s a).atoms ≤ 400) (ih : ∀ l b, (NT.loop l b).ok3 → (NT.loop l b).atoms = (NT.loop s a).atoms → DV x b ∧ DV l b) : LV x (.loop s a) := by
  intro v w P hP hp
  obtain ⟨l, b, hren, hbok, hbat, hlx, hdb, hlp, hla⟩ := apart_rec s a x h ha
  obtain ⟨dvx, dvl⟩ := ih l b hbok hbat
  obtain ⟨x0, A0, m0, c0, rfl⟩ := hp.form
  have hQ : ∀ (w1 : World), w.heap.size + 2 ≤ w1.heap.size → ∀ k, w1.heap.size ≤ k → P k ∧ k ≠ w.heap.size + 1 := fun w1 hs k hk => ⟨hP k (by omega), by omega⟩
  have HAP : Hid (Calls Tryz.prog 139 #[.agg #[.string x0, .slice A0 m0 c0], .slice (some ⟨w.heap.size + 2, 0, none⟩) 1 1] (((w.alloc (.cells #[.string x0, .slice A0 m0 c0] 59)).alloc (.cells #[.string (St []), .slice none 0 0] 59)).alloc (.cells #[.string (St x), .slice none 0 0] 59)) fun e w' => (∃ bl o c' A4 n4 c4, e = .returned (.agg #[.string (St []), .slice (some ⟨bl, o, none⟩) 3 c']) ∧
      (∀ w2, Below w'.heap.size w' w2 → (w2.cell? ⟨bl, o + 2, none⟩ = some (.string (St l)) ∧ w2.cell? ⟨bl, o + 4, none⟩ = some (.string (St b.toTr.atom)) ∧ w2.cell? ⟨bl, o + 5, none⟩ = some (.slice A4 n4 c4)) ∧ TAt w2 (fun k => P k ∧ k ≠ w.heap.size + 1) b.toTr (.agg #[.string (St b.toTr.atom), .slice A4 n4 c4]) ∧ TAt w2 (fun k => P k ∧ k ≠ w.heap.size + 1) (NT.loop l b).toTr (.agg #[.string (St []), .slice (some ⟨bl, o, none⟩) 3 c']))) ∧ Below (((w.alloc (.cells #[.string x0, .slice A0 m0 c0] 59)).alloc (.cells #[.string (St []), .slice none 0 0] 59)).alloc (.cells #[.string (St x), .slice none 0 0] 59)).heap.size (((w.alloc (.cells #[.string x0, .slice A0 m0 c0] 59)).alloc (.cells #[.string (St []), .slice none 0 0] 59)).alloc (.cells #[.string (St x), .slice none 0 0] 59)) w') := by
    have hoth : Oth (((w.alloc (.cells #[.string x0, .slice A0 m0 c0] 59)).alloc (.cells #[.string (St []), .slice none 0 0] 59)).alloc (.cells #[.string (St x), .slice none 0 0] 59)) (some ⟨w.heap.size + 2, 0, none⟩) [.name x] := by
      have hrow := new3 w (.cells #[.string x0, .slice A0 m0 c0] 59) (.cells #[.string (St []), .slice none 0 0] 59) (.cells #[.string (St x), .slice none 0 0] 59)
      refine .inr ⟨_, _, rfl, fun i t ht => ?_⟩
      match i, ht with
      | 0, ht =>
        simp at ht
        subst ht
        exact ⟨St x, none, 0, 0, block_cell hrow 0, block_cell hrow 1, none, 0, rfl, Nat.le_refl _, .nil _⟩
      | i + 1, ht => simp at ht
    have hfl : (frees [NT.name x]).length ≤ 500 := by simp [frees, NT.names, NT.fr]
    have key := l1Apart_with (.loop s a) [.name x] h ha (by
      intro t ht
      simp at ht
      rw [ht]
      exact ⟨hx, by simp [NT.atoms]⟩) (by simp) hfl _ _ (((w.alloc (.cells #[.string x0, .slice A0 m0 c0] 59)).alloc (.cells #[.string (St []), .slice none 0 0] 59)).alloc (.cells #[.string (St x), .slice none 0 0] 59)) P 1 (hp.up (up_alloc (up_alloc (up1 w _) _) _)) hoth
    rw [hren] at key
    refine key.mono ?_
    rintro e w' ⟨⟨y, B, n', c, he, ht⟩, hb⟩
    have ht2 : TAt w' (fun k => P k ∧ k ≠ w.heap.size + 1) (NT.loop l b).toTr (.agg #[.string y, .slice B n' c]) := ht.weak fun k hk => hQ (((w.alloc (.cells #[.string x0, .slice A0 m0 c0] 59)).alloc (.cells #[.string (St []), .slice none 0 0] 59)).alloc (.cells #[.string (St x), .slice none 0 0] 59)) (by simp) k hk
    obtain ⟨bl, o, c', hv, A4, n4, c4, hc⟩ := rec_parts ht2
    rw [hv] at he hc
    exact ⟨⟨bl, o, c', A4, n4, c4, he, hc⟩, hb⟩
  have HDX : Hid (∀ v w1, w.heap.size + 2 ≤ w1.heap.size → TAt w1 (fun k => P k ∧ k ≠ w.heap.size + 1) b.toTr v → Calls Tryz.prog 105 #[v, .string (St x)] w1 (DvPost w1 (fun k => P k ∧ k ≠ w.heap.size + 1) b x)) := fun v w1 hs ht => dvx v w1 _ (hQ w1 hs) ht
  have HDL : Hid (∀ v w1, w.heap.size + 2 ≤ w1.heap.size → TAt w1 (fun k => P k ∧ k ≠ w.heap.size + 1) b.toTr v → Calls Tryz.prog 105 #[v, .string (St l)] w1 (DvPost w1 (fun k => P k ∧ k ≠ w.heap.size + 1) b l)) := fun v w1 hs ht => dvl v w1 _ (hQ w1 hs) ht
  have HPU : Hid (∀ y out v vt w1, DRes b y out true → w.heap.size + 2 ≤ w1.heap.size → TAt w1 (fun k => P k ∧ k ≠ w.heap.size + 1) out.toTr v → TAt w1 (fun k => P k ∧ k ≠ w.heap.size + 1) (NT.loop l b).toTr vt → Calls Tryz.prog 167 #[v, .string (St l), vt] w1 (PuPost w1 (fun k => P k ∧ k ≠ w.heap.size + 1) l (.loop l b) out)) := fun y out v vt w1 hd hs h1 h2 => l3Put_any l hbok.1.1 (.loop l b) out hd.1 hd.small hbok (by omega) v vt w1 _ (hQ w1 hs) h1 h2
  have HN1 : Hid (∀ oa ob p q, DRes b x oa p → DRes b l ob q → (p && q) = false → DRes (.loop s a) x (.loop l b) false) := fun oa ob p q h1 h2 h3 => DRes.apart_no hbok hbat hlx hdb hlp hla h1 h2 h3
  have HN2 : Hid (∀ oa ob, DRes b x oa true → DRes b l ob true → (fitsN l (.loop l b) oa && fitsN l (.loop l b) ob) = false → DRes (.loop s a) x (.loop l b) false) := fun oa ob h1 h2 h3 => DRes.rec_no hbok hbat hlx hdb hlp hla h1 h2 h3
  have HNX : Hid (∀ oa ob, DRes b x oa true → DRes b l ob true → fitsN l (.loop l b) oa = true → fitsN l (.loop l b) ob = true →
    ∃ c d F K, c = subN l (.loop l b) oa ∧ d = subN l (.loop l b) ob ∧ F = c.fr [] (d.fr [] []) ∧ K = freshN F 0 ∧ F.length ≤ 800 ∧ K ≤ 800 ∧ tN K ∉ F ∧ c.ok3 ∧ d.ok3 ∧ c.atoms ≤ 400 ∧ d.atoms ≤ 400 ∧
      DRes (.loop s a) x (.loop (tN K) (.sum c (.prod d (.name (tN K))))) (decide ((NT.loop (tN K) (.sum c (.prod d (.name (tN K))))).atoms ≤ 400))) := fun oa ob h1 h2 h3 h4 => DRes.rec_next h ha hbok hbat hlx hdb hlp hla h1 h2 h3 h4
  have HPP : Hid (∀ (w1 : World), w.heap.size + 2 ≤ w1.heap.size → ∀ k, w1.heap.size ≤ k → P k ∧ k ≠ w.heap.size + 1) := hQ
  clear hp hP hQ hren hbok hbat hlx hdb hlp hla dvx dvl ih h ha hx
  obtain ⟨xb, hxb⟩ : ∃ xb, xb = b.toTr.atom := ⟨_, rfl⟩
  rw [← hxb] at HAP
  clear hxb
  have R0 : Hid ((((w.alloc (.cells #[.string x0, .slice A0 m0 c0] 59)).alloc (.cells #[.string (St []), .slice none 0 0] 59)).alloc (.cells #[.string (St x), .slice none 0 0] 59)).heap[w.heap.size + 1]? = some (.cells #[.string (St []), .slice none 0 0] 59 (0, 0))) := block_alloc (new2 w _ _) _
  have HB0 : Hid (Below w.heap.size w (((w.alloc (.cells #[.string x0, .slice A0 m0 c0] 59)).alloc (.cells #[.string (St []), .slice none 0 0] 59)).alloc (.cells #[.string (St x), .slice none 0 0] 59))) := up_alloc (up_alloc (up1 w _) _) _
  go_enter Tryz.func159, Tryz.ntmps159
  go_wp2_with (go_at_call 139; refine HAP.out.mono ?_; rintro e w1 ⟨⟨bl, o, c', A4, n4, c4, rfl, hc⟩, hb1⟩; have HC := Lib.hid hc; have HB1 := Lib.hid (up_trans HB0.out hb1); have R1 := Lib.hid (block_up hb1 R0.out); have HS1 : Hid (w.heap.size + 2 ≤ w1.heap.size) := lt_of_block R1.out; obtain ⟨z1, z2, z3⟩ := (hc _ (up1 w1 (.cells #[.string (St []), .slice (some ⟨bl, o, none⟩) 3 c'] 59))).1; clear hc hb1)
  go_wp2_with (go_at_call 105; have HDXq := HDX.out; clear HDX; (refine (HDXq _ _ (by have := HS1.out; simp; omega) (HC.out _ (up1 w1 _)).2.1).mono ?_); rintro e w2 ⟨oa, p, hoa, ⟨x2, B2, m2, c2, rfl, ht2⟩, hb2⟩; have HB2 := Lib.hid (up_trans (up_alloc HB1.out _) hb2); have HT2 : Hid (Below w1.heap.size w1 w2) := up_trans (up1 w1 _) hb2; have R2 := Lib.hid (block_up hb2 (block_alloc R1.out (.cells #[.string (St []), .slice (some ⟨bl, o, none⟩) 3 c'] 59))); have K2 := Lib.hid (block_up hb2 (block_new w1 (.cells #[.string (St []), .slice (some ⟨bl, o, none⟩) 3 c'] 59))); have HS2 : Hid (w.heap.size + 2 ≤ w2.heap.size) := lt_of_block R2.out; have HOA2 := Lib.hid ht2; have HA := Lib.hid hoa; obtain ⟨z1, z2, z3⟩ := (HC.out _ (up_alloc HT2.out (.cells #[.string x2, .slice B2 m2 c2] 59))).1; have k20 := block_cell (block_alloc K2.out (.cells #[.string x2, .slice B2 m2 c2] 59)) 1; clear hoa ht2 hb2)
  go_upto_region 5 with (go_at_call 105; have HDLq := HDL.out; clear HDL; (refine (HDLq _ _ (by have := HS2.out; simp; omega) (HC.out _ (up_alloc HT2.out _)).2.1).mono ?_); rintro e w3 ⟨ob, q, hob, ⟨x3, B3, m3, c3, rfl, ht3⟩, hb3⟩; have HB3 := Lib.hid (up_trans (up_alloc HB2.out _) hb3); have HT3 : Hid (Below w1.heap.size w1 w3) := up_trans (up_alloc HT2.out _) hb3; have R3 := Lib.hid (block_up hb3 (block_alloc R2.out (.cells #[.string x2, .slice B2 m2 c2] 59))); have K3 := Lib.hid (block_up hb3 (block_alloc K2.out (.cells #[.string x2, .slice B2 m2 c2] 59))); have L3 := Lib.hid (block_up hb3 (block_new w2 (.cells #[.string x2, .slice B2 m2 c2] 59))); have HS3 : Hid (w.heap.size + 2 ≤ w3.heap.size) := lt_of_block R3.out; have HOA3 := Lib.hid ((HOA2.out.up (up1 w2 (.cells #[.string x2, .slice B2 m2 c2] 59))).up hb3); have HOB3 := Lib.hid ht3; have HBB := Lib.hid hob; have k30 := block_cell (block_alloc K3.out (.cells #[.string x3, .slice B3 m3 c3] 59)) 0; have k31 := block_cell (block_alloc K3.out (.cells #[.string x3, .slice B3 m3 c3] 59)) 1; have l30 := block_cell (block_alloc L3.out (.cells #[.string x3, .slice B3 m3 c3] 59)) 0; have l31 := block_cell (block_alloc L3.out (.cells #[.string x3, .slice B3 m3 c3] 59)) 1; have r30 := block_cell (block_alloc R3.out (.cells #[.string x3, .slice B3 m3 c3] 59)) 0; have r31 := block_cell (block_alloc R3.out (.cells #[.string x3, .slice B3 m3 c3] 59)) 1; have fr0 := block_free (block_alloc R3.out (.cells #[.string x3, .slice B3 m3 c3] 59)) 0; have fr1 := block_free (block_alloc R3.out (.cells #[.string x3, .slice B3 m3 c3] 59)) 1; have lr3 := lt_of_block (block_alloc R3.out (.cells #[.string x3, .slice B3 m3 c3] 59)); clear hob ht3 hb3)
  cases p with
  | false =>
    have HF := Lib.hid (HN1.out _ _ _ _ HA.out HBB.out rfl)
    go_wp2
    refine bodyPost_ret (v := .tuple #[.agg #[.string (St []), .slice (some ⟨bl, o, none⟩) 3 c'], .bool false]) (by simp [results, Tryz.results159, go_sem, r30, r31, lr3]) rfl ?_
    exact ⟨_, _, HF.out, ⟨_, _, _, _, rfl, (HC.out _ (up_alloc HT3.out _)).2.2.move fun k hk ho => by
      have h1 : P k := ho.1
      have h2 : k ≠ w.heap.size + 1 := ho.2
      refine ⟨h1, ?_⟩
      repeat (first | rfl | rw [drew_heap] | rw [Below.heap_setCell _ ⟨w.heap.size + 1, 0, none⟩ _ k (by show k ≠ w.heap.size + 1; omega)] | rw [Below.heap_setCell _ ⟨w.heap.size + 1, 1, none⟩ _ k (by show k ≠ w.heap.size + 1; omega)])⟩, by repeat (first | exact HB3.out | refine up_drew ?_ | refine set0 ?_ (by omega) | refine up_alloc ?_ _)⟩
  | true =>
    cases q with
    | false =>
      have HF := Lib.hid (HN1.out _ _ _ _ HA.out HBB.out rfl)
      go_wp2
      refine bodyPost_ret (v := .tuple #[.agg #[.string (St []), .slice (some ⟨bl, o, none⟩) 3 c'], .bool false]) (by simp [results, Tryz.results159, go_sem, r30, r31, lr3]) rfl ?_
      exact ⟨_, _, HF.out, ⟨_, _, _, _, rfl, (HC.out _ (up_alloc HT3.out _)).2.2.move fun k hk ho => by
        have h1 : P k := ho.1
        have h2 : k ≠ w.heap.size + 1 := ho.2
        refine ⟨h1, ?_⟩
        repeat (first | rfl | rw [drew_heap] | rw [Below.heap_setCell _ ⟨w.heap.size + 1, 0, none⟩ _ k (by show k ≠ w.heap.size + 1; omega)] | rw [Below.heap_setCell _ ⟨w.heap.size + 1, 1, none⟩ _ k (by show k ≠ w.heap.size + 1; omega)])⟩, by repeat (first | exact HB3.out | refine up_drew ?_ | refine set0 ?_ (by omega) | refine up_alloc ?_ _)⟩
    | true =>
      clear HN1 z1 z2 z3 k20 fr0 fr1 lr3 r30 r31 HAP HDXq HDLq
      go_wp2_with (go_at_call 167; have HOA3q := HOA3.out; clear HOA3; (refine (HPU.out _ oa _ _ _ HA.out (by have := HS3.out; simp; omega) (HOA3q.up (up1 w3 _)) (HC.out _ (up_alloc HT3.out _)).2.2).mono ?_); rintro e w4 ⟨x4, B4, m4, c4', rfl, ht4, hb4⟩; have HB4 := Lib.hid (up_trans (up_alloc HB3.out _) hb4); have HT4 : Hid (Below w1.heap.size w1 w4) := up_trans (up_alloc HT3.out _) hb4; have R4 := Lib.hid (block_up hb4 (block_alloc R3.out (.cells #[.string x3, .slice B3 m3 c3] 59))); have K4 := Lib.hid (block_up hb4 (block_alloc K3.out (.cells #[.string x3, .slice B3 m3 c3] 59))); have M4 := Lib.hid (block_up hb4 (block_new w3 (.cells #[.string x3, .slice B3 m3 c3] 59))); have HS4 : Hid (w.heap.size + 2 ≤ w4.heap.size) := lt_of_block R4.out; have HOB4 := Lib.hid ((HOB3.out.up (up1 w3 (.cells #[.string x3, .slice B3 m3 c3] 59))).up hb4); have HTC4 := Lib.hid ht4; have k40 := block_cell (block_alloc K4.out (.cells #[.string x4, .slice B4 m4 c4'] 59)) 0; have k41 := block_cell (block_alloc K4.out (.cells #[.string x4, .slice B4 m4 c4'] 59)) 1; have m40 := block_cell (block_alloc M4.out (.cells #[.string x4, .slice B4 m4 c4'] 59)) 0; have m41 := block_cell (block_alloc M4.out (.cells #[.string x4, .slice B4 m4 c4'] 59)) 1; clear ht4 hb4)
      go_upto_region 9 with (go_at_call 167; (refine (HPU.out _ ob _ _ _ HBB.out (by have := HS4.out; simp; omega) (HOB4.out.up (up1 w4 _)) (HC.out _ (up_alloc HT4.out _)).2.2).mono ?_); rintro e w5 ⟨x5, B5, m5, c5, rfl, ht5, hb5⟩; have HB5 := Lib.hid (up_trans (up_alloc HB4.out _) hb5); have HT5 : Hid (Below w1.heap.size w1 w5) := up_trans (up_alloc HT4.out _) hb5; have R5 := Lib.hid (block_up hb5 (block_alloc R4.out (.cells #[.string x4, .slice B4 m4 c4'] 59))); have K5 := Lib.hid (block_up hb5 (block_alloc K4.out (.cells #[.string x4, .slice B4 m4 c4'] 59))); have N5 := Lib.hid (block_up hb5 (block_new w4 (.cells #[.string x4, .slice B4 m4 c4'] 59))); have HS5 : Hid (w.heap.size + 2 ≤ w5.heap.size) := lt_of_block R5.out; have HTC5 := Lib.hid (fun h => ((HTC4.out h).up (up1 w4 (.cells #[.string x4, .slice B4 m4 c4'] 59))).up hb5); have HTD5 := Lib.hid ht5; have k50 := block_cell (block_alloc K5.out (.cells #[.string x5, .slice B5 m5 c5] 59)) 0; have k51 := block_cell (block_alloc K5.out (.cells #[.string x5, .slice B5 m5 c5] 59)) 1; have r50 := block_cell (block_alloc R5.out (.cells #[.string x5, .slice B5 m5 c5] 59)) 0; have r51 := block_cell (block_alloc R5.out (.cells #[.string x5, .slice B5 m5 c5] 59)) 1; have fr0 := block_free (block_alloc R5.out (.cells #[.string x5, .slice B5 m5 c5] 59)) 0; have fr1 := block_free (block_alloc R5.out (.cells #[.string x5, .slice B5 m5 c5] 59)) 1; have lr5 := lt_of_block (block_alloc R5.out (.cells #[.string x5, .slice B5 m5 c5] 59)); clear ht5 hb5)
      cases hu : fitsN l (.loop l b) oa with
      | false =>
        have HF := Lib.hid (HN2.out _ _ HA.out HBB.out (by rw [hu]; rfl))
        go_wp2
        refine bodyPost_ret (v := .tuple #[.agg #[.string (St []), .slice (some ⟨bl, o, none⟩) 3 c'], .bool false]) (by simp [results, Tryz.results159, go_sem, r50, r51, lr5]) rfl ?_
        exact ⟨_, _, HF.out, ⟨_, _, _, _, rfl, (HC.out _ (up_alloc HT5.out _)).2.2.move fun k hk ho => by
          have h1 : P k := ho.1
          have h2 : k ≠ w.heap.size + 1 := ho.2
          refine ⟨h1, ?_⟩
          repeat (first | rfl | rw [drew_heap] | rw [Below.heap_setCell _ ⟨w.heap.size + 1, 0, none⟩ _ k (by show k ≠ w.heap.size + 1; omega)] | rw [Below.heap_setCell _ ⟨w.heap.size + 1, 1, none⟩ _ k (by show k ≠ w.heap.size + 1; omega)])⟩, by repeat (first | exact HB5.out | refine up_drew ?_ | refine set0 ?_ (by omega) | refine up_alloc ?_ _)⟩
      | true =>
        cases hv : fitsN l (.loop l b) ob with
        | false =>
          have HF := Lib.hid (HN2.out _ _ HA.out HBB.out (by rw [hu, hv]; rfl))
          go_wp2
          refine bodyPost_ret (v := .tuple #[.agg #[.string (St []), .slice (some ⟨bl, o, none⟩) 3 c'], .bool false]) (by simp [results, Tryz.results159, go_sem, r50, r51, lr5]) rfl ?_
          exact ⟨_, _, HF.out, ⟨_, _, _, _, rfl, (HC.out _ (up_alloc HT5.out _)).2.2.move fun k hk ho => by
            have h1 : P k := ho.1
            have h2 : k ≠ w.heap.size + 1 := ho.2
            refine ⟨h1, ?_⟩
            repeat (first | rfl | rw [drew_heap] | rw [Below.heap_setCell _ ⟨w.heap.size + 1, 0, none⟩ _ k (by show k ≠ w.heap.size + 1; omega)] | rw [Below.heap_setCell _ ⟨w.heap.size + 1, 1, none⟩ _ k (by show k ≠ w.heap.size + 1; omega)])⟩, by repeat (first | exact HB5.out | refine up_drew ?_ | refine set0 ?_ (by omega) | refine up_alloc ?_ _)⟩
        | true =>
          obtain ⟨c, d, FF, K, hcd, hdd, hFF, hKK, hFl, hKl, hKn, c3', d3', ca, da, hres⟩ := HNX.out _ _ HA.out HBB.out hu hv
          have HTC := Lib.hid (HTC5.out hu)
          have HTD := Lib.hid (HTD5.out hv)
          rw [← hcd] at HTC
          rw [← hdd] at HTD
          have HB6 : Hid (Below w.heap.size w (w5.alloc (.cells #[.string x5, .slice B5 m5 c5] 59))) := up_alloc HB5.out _
          have R6 : Hid ((w5.alloc (.cells #[.string x5, .slice B5 m5 c5] 59)).heap[w.heap.size + 1]? = some (.cells #[.string (St []), .slice none 0 0] 59 (0, 0))) := block_alloc R5.out _
          have M6 : Hid ((w5.alloc (.cells #[.string x5, .slice B5 m5 c5] 59)).heap[w4.heap.size]? = some (.cells #[.string x4, .slice B4 m4 c4'] 59 (0, 0))) := block_alloc N5.out _
          have N6 : Hid ((w5.alloc (.cells #[.string x5, .slice B5 m5 c5] 59)).heap[w5.heap.size]? = some (.cells #[.string x5, .slice B5 m5 c5] 59 (0, 0))) := block_new w5 _
          have HTC6 : Hid (TAt (w5.alloc (.cells #[.string x5, .slice B5 m5 c5] 59)) (fun k => P k ∧ k ≠ w.heap.size + 1) c.toTr (.agg #[.string x4, .slice B4 m4 c4'])) := HTC.out.up (up1 w5 _)
          have HTD6 : Hid (TAt (w5.alloc (.cells #[.string x5, .slice B5 m5 c5] 59)) (fun k => P k ∧ k ≠ w.heap.size + 1) d.toTr (.agg #[.string x5, .slice B5 m5 c5])) := HTD.out.up (up1 w5 _)
          have l45 : w4.heap.size < w5.heap.size := lt_of_block N5.out
          have hR4 := HS4.out
          clear hcd hdd HTC HTD HTC5 HTD5 HNX HN2 HPU HC HT5 HT4 HT3 HT2 R5 K5 N5 HB5 R4 K4 M4 HB4 HTC4 HOB4 R3 K3 L3 HB3 HOA3q HOB3 R2 K2 HB2 HOA2 R1 HB1 R0 HB0 HA HBB k30 k31 l30 l31 k40 k41 m40 m41 k50 k51 r50 r51 fr0 fr1 lr5 HS1 HS2 HS3 HS4 hu hv
          generalize w5.alloc (.cells #[.string x5, .slice B5 m5 c5] 59) = wb at *
          have HFD : Hid (∀ (w1 : World) (A : Option Addr) (g2 : Nat), Below wb.heap.size wb w1 → SOwn w1 wb.heap.size [] g2 0 → Calls Tryz.prog 103 #[.agg #[.string x5, .slice B5 m5 c5], .slice A 0 0, .slice (some ⟨g2, 0, none⟩) 0 0] w1 fun e w' => ∃ g c3, e = .returned (.slice (some ⟨g, 0, none⟩) (d.fr [] []).length c3) ∧ SOwn w' wb.heap.size (d.fr [] []) g c3 ∧ Below wb.heap.size wb w') := fun w1 A g2 hb ho =>
            (l1Free_any3 d d3' _ _ A 0 [] wb.heap.size g2 0 [] ((HTD6.out.up hb).weak fun _ _ => trivial) (.inl rfl) ho hb.size (by simp; omega) (by simp; omega)).mono fun e w' ⟨g, c3, he, ho2, hg, _⟩ => ⟨g, c3, he, ho2, up_grown hb hg ho.lt.1⟩
          have hfd : (d.fr [] []).length ≤ 400 := by
            have := fr_len d [] []
            simp only [List.length_nil] at this
            omega
          have HFC : Hid (∀ (w1 : World) (A : Option Addr) (g2 c2 : Nat), Below wb.heap.size wb w1 → SOwn w1 wb.heap.size (d.fr [] []) g2 c2 → Calls Tryz.prog 103 #[.agg #[.string x4, .slice B4 m4 c4'], .slice A 0 0, .slice (some ⟨g2, 0, none⟩) (d.fr [] []).length c2] w1 fun e w' => ∃ g c3, e = .returned (.slice (some ⟨g, 0, none⟩) FF.length c3) ∧ SOwn w' wb.heap.size FF g c3 ∧ Below wb.heap.size wb w') := fun w1 A g2 c2 hb ho => by
            rw [hFF]
            exact (l1Free_any3 c c3' _ _ A 0 [] wb.heap.size g2 c2 (d.fr [] []) ((HTC6.out.up hb).weak fun _ _ => trivial) (.inl rfl) ho hb.size (by simp; omega) (by omega)).mono fun e w' ⟨g, c3, he, ho2, hg, _⟩ => ⟨g, c3, he, ho2, up_grown hb hg ho.lt.1⟩
          have n60 := block_cell N6.out 0
          have n61 := block_cell N6.out 1
          have m60 := block_cell M6.out 0
          have m61 := block_cell M6.out 1
          generalize (d.fr [] []).length = nfd at HFD HFC
          have HK0 : Hid (fresh FF FF.length 0 = K) := hKK.symm
          have HKN := Lib.hid hKn
          have HOUTD := Lib.hid hres
          clear hFF hKK hKn hres
          clear hfd
          generalize d.fr [] [] = dfr at *
          generalize w5.heap.size = gd at *
          generalize w4.heap.size = gc at *
          have ld6 := lt_of_block N6.out
          have lc6 := lt_of_block M6.out
          go_upto_region 11 with fail
          go_cut [16] from 76 (fun s16 wx => ∃ g cF, s16 = .slice (some ⟨g, 0, none⟩) FF.length cF ∧ Hid (SOwn wx wb.heap.size FF g cF) ∧ Hid (Below wb.heap.size wb wx))
          case first =>
            rename_i k0 a2 j kk a1 a0
            clear a2
            refine wp_region_noPanic ?_
            refine wp_region_held_drew (S := (fun w' => w'.cell? ⟨gc, 0, none⟩ = some (.string x4) ∧ w'.cell? ⟨gc, 1, none⟩ = some (.slice B4 m4 c4') ∧ w'.cell? ⟨gd, 0, none⟩ = some (.string x5) ∧ w'.cell? ⟨gd, 1, none⟩ = some (.slice B5 m5 c5))) (by kernel_rfl) (by exact ⟨m60, m61, n60, n61⟩) (fun hHeld => ?_)
            refine wpAnyH_take (i := 0) (v := ?_) rfl (by kernel_rfl) (by kernel_rfl) (by kernel_rfl) (fun _ _ _ h => h) (Or.inl ⟨by rfl, ?_⟩) (by assumption) ?_
            rotate_left
            · intro W hSW; (try dsimp only at hSW); go_simp; try with_reducible rfl
            try simp only [Act.put, List.setIfInBounds_toArray, List.set_cons_zero, List.set_cons_succ, List.getElem_toArray, List.getElem_cons_zero, List.getElem_cons_succ]
            refine wpAnyH_take (i := 2) (v := ?_) rfl (by kernel_rfl) (by kernel_rfl) (by kernel_rfl) (fun _ _ _ h => h) (Or.inl ⟨by rfl, ?_⟩) (by assumption) ?_
            rotate_left
            · intro W hSW; (try dsimp only at hSW); go_simp; try with_reducible rfl
            try simp only [Act.put, List.setIfInBounds_toArray, List.set_cons_zero, List.set_cons_succ, List.getElem_toArray, List.getElem_cons_zero, List.getElem_cons_succ]
            refine wpAnyH_ready (rs := [1, 3, 4]) (by kernel_rfl) (by simp) ?_
            refine AllReadyH.cons rfl (fun K hK => ?_) (AllReadyH.cons rfl (fun K hK => ?_) (AllReadyH.cons rfl (fun K hK => ?_) AllReadyH.nil))
            · go_simp
              refine hK.out _ _ (by exact ⟨cell_up (by repeat (first | exact Below.refl _ _ | exact HBF.out | exact HB7.out | refine up_drew ?_ | refine up_alloc ?_ _)) m60, cell_up (by repeat (first | exact Below.refl _ _ | exact HBF.out | exact HB7.out | refine up_drew ?_ | refine up_alloc ?_ _)) m61, cell_up (by repeat (first | exact Below.refl _ _ | exact HBF.out | exact HB7.out | refine up_drew ?_ | refine up_alloc ?_ _)) n60, cell_up (by repeat (first | exact Below.refl _ _ | exact HBF.out | exact HB7.out | refine up_drew ?_ | refine up_alloc ?_ _)) n61⟩) (fun hHeld => ?_)
              clear hK
              try simp only [Act.put, List.setIfInBounds_toArray, List.set_cons_zero, List.set_cons_succ, List.getElem_toArray, List.getElem_cons_zero, List.getElem_cons_succ]
              refine wpAnyH_ready (rs := [3, 4]) (by kernel_rfl) (by simp) ?_
              refine AllReadyH.cons rfl (fun K hK => ?_) (AllReadyH.cons rfl (fun K hK => ?_) AllReadyH.nil)
              · go_simp
                refine hK.out _ _ (by exact ⟨cell_up (by repeat (first | exact Below.refl _ _ | exact HBF.out | exact HB7.out | refine up_drew ?_ | refine up_alloc ?_ _)) m60, cell_up (by repeat (first | exact Below.refl _ _ | exact HBF.out | exact HB7.out | refine up_drew ?_ | refine up_alloc ?_ _)) m61, cell_up (by repeat (first | exact Below.refl _ _ | exact HBF.out | exact HB7.out | refine up_drew ?_ | refine up_alloc ?_ _)) n60, cell_up (by repeat (first | exact Below.refl _ _ | exact HBF.out | exact HB7.out | refine up_drew ?_ | refine up_alloc ?_ _)) n61⟩) (fun hHeld => ?_)
                clear hK
                try simp only [Act.put, List.setIfInBounds_toArray, List.set_cons_zero, List.set_cons_succ, List.getElem_toArray, List.getElem_cons_zero, List.getElem_cons_succ]
                refine wpAnyH_ready (rs := [4]) (by kernel_rfl) (by simp) ?_
                refine AllReadyH.cons rfl (fun K hK => ?_) AllReadyH.nil
                · go_simp
                  refine hK.out _ _ (by exact ⟨cell_up (by repeat (first | exact Below.refl _ _ | exact HBF.out | exact HB7.out | refine up_drew ?_ | refine up_alloc ?_ _)) m60, cell_up (by repeat (first | exact Below.refl _ _ | exact HBF.out | exact HB7.out | refine up_drew ?_ | refine up_alloc ?_ _)) m61, cell_up (by repeat (first | exact Below.refl _ _ | exact HBF.out | exact HB7.out | refine up_drew ?_ | refine up_alloc ?_ _)) n60, cell_up (by repeat (first | exact Below.refl _ _ | exact HBF.out | exact HB7.out | refine up_drew ?_ | refine up_alloc ?_ _)) n61⟩) (fun hHeld => ?_)
                  clear hK
                  try simp only [Act.put, List.setIfInBounds_toArray, List.set_cons_zero, List.set_cons_succ, List.getElem_toArray, List.getElem_cons_zero, List.getElem_cons_succ]
                  refine wpAnyH_ready (rs := [5]) (by kernel_rfl) (by simp) ?_
                  refine AllReadyH.cons rfl (fun K hK => ?_) AllReadyH.nil
                  · go_simp
                    go_at_call 103
                    refine (HFD.out _ _ _ (by repeat (first | exact Below.refl _ _ | exact HBF.out | exact HB7.out | refine up_drew ?_ | refine up_alloc ?_ _)) (SOwn.up (own_nilH ((wb.alloc (.cells #[] 9)).alloc (.cells #[] 9)) wb.heap.size (by simp <;> omega) 9 _ (by simp <;> omega)) (by repeat (first | exact Below.refl _ _ | exact HBF.out | exact HB7.out | refine up_drew ?_ | refine up_alloc ?_ _)))).mono ?_
                    rintro e w6 ⟨g6, c6, rfl, ho6, hb6⟩
                    have HO1 := Lib.hid ho6
                    have HBF := Lib.hid hb6
                    clear ho6 hb6
                    refine hK.out _ _ (by exact ⟨cell_up (by repeat (first | exact Below.refl _ _ | exact HBF.out | exact HB7.out | refine up_drew ?_ | refine up_alloc ?_ _)) m60, cell_up (by repeat (first | exact Below.refl _ _ | exact HBF.out | exact HB7.out | refine up_drew ?_ | refine up_alloc ?_ _)) m61, cell_up (by repeat (first | exact Below.refl _ _ | exact HBF.out | exact HB7.out | refine up_drew ?_ | refine up_alloc ?_ _)) n60, cell_up (by repeat (first | exact Below.refl _ _ | exact HBF.out | exact HB7.out | refine up_drew ?_ | refine up_alloc ?_ _)) n61⟩) (fun hHeld => ?_)
                    clear hK
                    try simp only [Act.put, List.setIfInBounds_toArray, List.set_cons_zero, List.set_cons_succ, List.getElem_toArray, List.getElem_cons_zero, List.getElem_cons_succ]
                    refine wpAnyH_ready (rs := [6]) (by kernel_rfl) (by simp) ?_
                    refine AllReadyH.cons rfl (fun K hK => ?_) AllReadyH.nil
                    · go_simp
                      go_at_call 103
                      refine (HFC.out _ _ _ _ (by repeat (first | exact Below.refl _ _ | exact HBF.out | exact HB7.out | refine up_drew ?_ | refine up_alloc ?_ _)) (HO1.out.up (by repeat (first | exact Below.refl _ _ | exact HBF.out | exact HB7.out | refine up_drew ?_ | refine up_alloc ?_ _)))).mono ?_
                      rintro e w7 ⟨g7, c7, rfl, ho7, hb7⟩
                      have HO7 := Lib.hid ho7
                      have HB7 := Lib.hid hb7
                      clear ho7 hb7
                      refine hK.out _ _ (by exact ⟨cell_up (by repeat (first | exact Below.refl _ _ | exact HBF.out | exact HB7.out | refine up_drew ?_ | refine up_alloc ?_ _)) m60, cell_up (by repeat (first | exact Below.refl _ _ | exact HBF.out | exact HB7.out | refine up_drew ?_ | refine up_alloc ?_ _)) m61, cell_up (by repeat (first | exact Below.refl _ _ | exact HBF.out | exact HB7.out | refine up_drew ?_ | refine up_alloc ?_ _)) n60, cell_up (by repeat (first | exact Below.refl _ _ | exact HBF.out | exact HB7.out | refine up_drew ?_ | refine up_alloc ?_ _)) n61⟩) (fun hHeld => ?_)
                      clear hK
                      try simp only [Act.put, List.setIfInBounds_toArray, List.set_cons_zero, List.set_cons_succ, List.getElem_toArray, List.getElem_cons_zero, List.getElem_cons_succ]
                      refine wpAnyH_take (i := 7) (v := ?_) rfl (by kernel_rfl) (by kernel_rfl) (by kernel_rfl) (fun _ _ _ h => h) (Or.inl ⟨by rfl, ?_⟩) (by assumption) ?_
                      rotate_left
                      · intro W hSW; (try dsimp only at hSW); go_simp; try with_reducible rfl
                      try simp only [Act.put, List.setIfInBounds_toArray, List.set_cons_zero, List.set_cons_succ, List.getElem_toArray, List.getElem_cons_zero, List.getElem_cons_succ]
                      refine wpAnyH_done (by kernel_rfl) ?_ _
                      refine NoPanic.normal ?_
                      go_wp2_with fail
                      go_meet
                      exact ⟨g7, c7, rfl, HO7, HB7⟩
              · go_simp
                refine hK.out _ _ (by exact ⟨cell_up (by repeat (first | exact Below.refl _ _ | exact HBF.out | exact HB7.out | refine up_drew ?_ | refine up_alloc ?_ _)) m60, cell_up (by repeat (first | exact Below.refl _ _ | exact HBF.out | exact HB7.out | refine up_drew ?_ | refine up_alloc ?_ _)) m61, cell_up (by repeat (first | exact Below.refl _ _ | exact HBF.out | exact HB7.out | refine up_drew ?_ | refine up_alloc ?_ _)) n60, cell_up (by repeat (first | exact Below.refl _ _ | exact HBF.out | exact HB7.out | refine up_drew ?_ | refine up_alloc ?_ _)) n61⟩) (fun hHeld => ?_)
                clear hK
                try simp only [Act.put, List.setIfInBounds_toArray, List.set_cons_zero, List.set_cons_succ, List.getElem_toArray, List.getElem_cons_zero, List.getElem_cons_succ]
                refine wpAnyH_ready (rs := [3]) (by kernel_rfl) (by simp) ?_
                refine AllReadyH.cons rfl (fun K hK => ?_) AllReadyH.nil
                · go_simp
                  refine hK.out _ _ (by exact ⟨cell_up (by repeat (first | exact Below.refl _ _ | exact HBF.out | exact HB7.out | refine up_drew ?_ | refine up_alloc ?_ _)) m60, cell_up (by repeat (first | exact Below.refl _ _ | exact HBF.out | exact HB7.out | refine up_drew ?_ | refine up_alloc ?_ _)) m61, cell_up (by repeat (first | exact Below.refl _ _ | exact HBF.out | exact HB7.out | refine up_drew ?_ | refine up_alloc ?_ _)) n60, cell_up (by repeat (first | exact Below.refl _ _ | exact HBF.out | exact HB7.out | refine up_drew ?_ | refine up_alloc ?_ _)) n61⟩) (fun hHeld => ?_)
                  clear hK
                  try simp only [Act.put, List.setIfInBounds_toArray, List.set_cons_zero, List.set_cons_succ, List.getElem_toArray, List.getElem_cons_zero, List.getElem_cons_succ]
                  refine wpAnyH_ready (rs := [5]) (by kernel_rfl) (by simp) ?_
                  refine AllReadyH.cons rfl (fun K hK => ?_) AllReadyH.nil
                  · go_simp
                    go_at_call 103
                    refine (HFD.out _ _ _ (by repeat (first | exact Below.refl _ _ | exact HBF.out | exact HB7.out | refine up_drew ?_ | refine up_alloc ?_ _)) (SOwn.up (own_nilH (wb.alloc (.cells #[] 9)) wb.heap.size (by simp <;> omega) 9 _ (by simp <;> omega)) (by repeat (first | exact Below.refl _ _ | exact HBF.out | exact HB7.out | refine up_drew ?_ | refine up_alloc ?_ _)))).mono ?_
                    rintro e w6 ⟨g6, c6, rfl, ho6, hb6⟩
                    have HO1 := Lib.hid ho6
                    have HBF := Lib.hid hb6
                    clear ho6 hb6
                    refine hK.out _ _ (by exact ⟨cell_up (by repeat (first | exact Below.refl _ _ | exact HBF.out | exact HB7.out | refine up_drew ?_ | refine up_alloc ?_ _)) m60, cell_up (by repeat (first | exact Below.refl _ _ | exact HBF.out | exact HB7.out | refine up_drew ?_ | refine up_alloc ?_ _)) m61, cell_up (by repeat (first | exact Below.refl _ _ | exact HBF.out | exact HB7.out | refine up_drew ?_ | refine up_alloc ?_ _)) n60, cell_up (by repeat (first | exact Below.refl _ _ | exact HBF.out | exact HB7.out | refine up_drew ?_ | refine up_alloc ?_ _)) n61⟩) (fun hHeld => ?_)
                    clear hK
                    try simp only [Act.put, List.setIfInBounds_toArray, List.set_cons_zero, List.set_cons_succ, List.getElem_toArray, List.getElem_cons_zero, List.getElem_cons_succ]
                    refine wpAnyH_ready (rs := [6]) (by kernel_rfl) (by simp) ?_
                    refine AllReadyH.cons rfl (fun K hK => ?_) AllReadyH.nil
                    · go_simp
                      go_at_call 103
                      refine (HFC.out _ _ _ _ (by repeat (first | exact Below.refl _ _ | exact HBF.out | exact HB7.out | refine up_drew ?_ | refine up_alloc ?_ _)) (HO1.out.up (by repeat (first | exact Below.refl _ _ | exact HBF.out | exact HB7.out | refine up_drew ?_ | refine up_alloc ?_ _)))).mono ?_
                      rintro e w7 ⟨g7, c7, rfl, ho7, hb7⟩
                      have HO7 := Lib.hid ho7
                      have HB7 := Lib.hid hb7
                      clear ho7 hb7
                      refine hK.out _ _ (by exact ⟨cell_up (by repeat (first | exact Below.refl _ _ | exact HBF.out | exact HB7.out | refine up_drew ?_ | refine up_alloc ?_ _)) m60, cell_up (by repeat (first | exact Below.refl _ _ | exact HBF.out | exact HB7.out | refine up_drew ?_ | refine up_alloc ?_ _)) m61, cell_up (by repeat (first | exact Below.refl _ _ | exact HBF.out | exact HB7.out | refine up_drew ?_ | refine up_alloc ?_ _)) n60, cell_up (by repeat (first | exact Below.refl _ _ | exact HBF.out | exact HB7.out | refine up_drew ?_ | refine up_alloc ?_ _)) n61⟩) (fun hHeld => ?_)
                      clear hK
                      try simp only [Act.put, List.setIfInBounds_toArray, List.set_cons_zero, List.set_cons_succ, List.getElem_toArray, List.getElem_cons_zero, List.getElem_cons_succ]
                      refine wpAnyH_take (i := 7) (v := ?_) rfl (by kernel_rfl) (by kernel_rfl) (by kernel_rfl) (fun _ _ _ h => h) (Or.inl ⟨by rfl, ?_⟩) (by assumption) ?_
                      rotate_left
                      · intro W hSW; (try dsimp only at hSW); go_simp; try with_reducible rfl
                      try simp only [Act.put, List.setIfInBounds_toArray, List.set_cons_zero, List.set_cons_succ, List.getElem_toArray, List.getElem_cons_zero, List.getElem_cons_succ]
                      refine wpAnyH_done (by kernel_rfl) ?_ _
                      refine NoPanic.normal ?_
                      go_wp2_with fail
                      go_meet
                      exact ⟨g7, c7, rfl, HO7, HB7⟩
            · go_simp
              refine hK.out _ _ (by exact ⟨cell_up (by repeat (first | exact Below.refl _ _ | exact HBF.out | exact HB7.out | refine up_drew ?_ | refine up_alloc ?_ _)) m60, cell_up (by repeat (first | exact Below.refl _ _ | exact HBF.out | exact HB7.out | refine up_drew ?_ | refine up_alloc ?_ _)) m61, cell_up (by repeat (first | exact Below.refl _ _ | exact HBF.out | exact HB7.out | refine up_drew ?_ | refine up_alloc ?_ _)) n60, cell_up (by repeat (first | exact Below.refl _ _ | exact HBF.out | exact HB7.out | refine up_drew ?_ | refine up_alloc ?_ _)) n61⟩) (fun hHeld => ?_)
              clear hK
              try simp only [Act.put, List.setIfInBounds_toArray, List.set_cons_zero, List.set_cons_succ, List.getElem_toArray, List.getElem_cons_zero, List.getElem_cons_succ]
              refine wpAnyH_ready (rs := [1, 4]) (by kernel_rfl) (by simp) ?_
              refine AllReadyH.cons rfl (fun K hK => ?_) (AllReadyH.cons rfl (fun K hK => ?_) AllReadyH.nil)
              · go_simp
                refine hK.out _ _ (by exact ⟨cell_up (by repeat (first | exact Below.refl _ _ | exact HBF.out | exact HB7.out | refine up_drew ?_ | refine up_alloc ?_ _)) m60, cell_up (by repeat (first | exact Below.refl _ _ | exact HBF.out | exact HB7.out | refine up_drew ?_ | refine up_alloc ?_ _)) m61, cell_up (by repeat (first | exact Below.refl _ _ | exact HBF.out | exact HB7.out | refine up_drew ?_ | refine up_alloc ?_ _)) n60, cell_up (by repeat (first | exact Below.refl _ _ | exact HBF.out | exact HB7.out | refine up_drew ?_ | refine up_alloc ?_ _)) n61⟩) (fun hHeld => ?_)
                clear hK
                try simp only [Act.put, List.setIfInBounds_toArray, List.set_cons_zero, List.set_cons_succ, List.getElem_toArray, List.getElem_cons_zero, List.getElem_cons_succ]
                refine wpAnyH_ready (rs := [4]) (by kernel_rfl) (by simp) ?_
                refine AllReadyH.cons rfl (fun K hK => ?_) AllReadyH.nil
                · go_simp
                  refine hK.out _ _ (by exact ⟨cell_up (by repeat (first | exact Below.refl _ _ | exact HBF.out | exact HB7.out | refine up_drew ?_ | refine up_alloc ?_ _)) m60, cell_up (by repeat (first | exact Below.refl _ _ | exact HBF.out | exact HB7.out | refine up_drew ?_ | refine up_alloc ?_ _)) m61, cell_up (by repeat (first | exact Below.refl _ _ | exact HBF.out | exact HB7.out | refine up_drew ?_ | refine up_alloc ?_ _)) n60, cell_up (by repeat (first | exact Below.refl _ _ | exact HBF.out | exact HB7.out | refine up_drew ?_ | refine up_alloc ?_ _)) n61⟩) (fun hHeld => ?_)
                  clear hK
                  try simp only [Act.put, List.setIfInBounds_toArray, List.set_cons_zero, List.set_cons_succ, List.getElem_toArray, List.getElem_cons_zero, List.getElem_cons_succ]
                  refine wpAnyH_ready (rs := [5]) (by kernel_rfl) (by simp) ?_
                  refine AllReadyH.cons rfl (fun K hK => ?_) AllReadyH.nil
                  · go_simp
                    go_at_call 103
                    refine (HFD.out _ _ _ (by repeat (first | exact Below.refl _ _ | exact HBF.out | exact HB7.out | refine up_drew ?_ | refine up_alloc ?_ _)) (SOwn.up (own_nilH ((wb.alloc (.cells #[] 9)).alloc (.cells #[] 9)) wb.heap.size (by simp <;> omega) 9 _ (by simp <;> omega)) (by repeat (first | exact Below.refl _ _ | exact HBF.out | exact HB7.out | refine up_drew ?_ | refine up_alloc ?_ _)))).mono ?_
                    rintro e w6 ⟨g6, c6, rfl, ho6, hb6⟩
                    have HO1 := Lib.hid ho6
                    have HBF := Lib.hid hb6
                    clear ho6 hb6
                    refine hK.out _ _ (by exact ⟨cell_up (by repeat (first | exact Below.refl _ _ | exact HBF.out | exact HB7.out | refine up_drew ?_ | refine up_alloc ?_ _)) m60, cell_up (by repeat (first | exact Below.refl _ _ | exact HBF.out | exact HB7.out | refine up_drew ?_ | refine up_alloc ?_ _)) m61, cell_up (by repeat (first | exact Below.refl _ _ | exact HBF.out | exact HB7.out | refine up_drew ?_ | refine up_alloc ?_ _)) n60, cell_up (by repeat (first | exact Below.refl _ _ | exact HBF.out | exact HB7.out | refine up_drew ?_ | refine up_alloc ?_ _)) n61⟩) (fun hHeld => ?_)
                    clear hK
                    try simp only [Act.put, List.setIfInBounds_toArray, List.set_cons_zero, List.set_cons_succ, List.getElem_toArray, List.getElem_cons_zero, List.getElem_cons_succ]
                    refine wpAnyH_ready (rs := [6]) (by kernel_rfl) (by simp) ?_
                    refine AllReadyH.cons rfl (fun K hK => ?_) AllReadyH.nil
                    · go_simp
                      go_at_call 103
                      refine (HFC.out _ _ _ _ (by repeat (first | exact Below.refl _ _ | exact HBF.out | exact HB7.out | refine up_drew ?_ | refine up_alloc ?_ _)) (HO1.out.up (by repeat (first | exact Below.refl _ _ | exact HBF.out | exact HB7.out | refine up_drew ?_ | refine up_alloc ?_ _)))).mono ?_
                      rintro e w7 ⟨g7, c7, rfl, ho7, hb7⟩
                      have HO7 := Lib.hid ho7
                      have HB7 := Lib.hid hb7
                      clear ho7 hb7
                      refine hK.out _ _ (by exact ⟨cell_up (by repeat (first | exact Below.refl _ _ | exact HBF.out | exact HB7.out | refine up_drew ?_ | refine up_alloc ?_ _)) m60, cell_up (by repeat (first | exact Below.refl _ _ | exact HBF.out | exact HB7.out | refine up_drew ?_ | refine up_alloc ?_ _)) m61, cell_up (by repeat (first | exact Below.refl _ _ | exact HBF.out | exact HB7.out | refine up_drew ?_ | refine up_alloc ?_ _)) n60, cell_up (by repeat (first | exact Below.refl _ _ | exact HBF.out | exact HB7.out | refine up_drew ?_ | refine up_alloc ?_ _)) n61⟩) (fun hHeld => ?_)
                      clear hK
                      try simp only [Act.put, List.setIfInBounds_toArray, List.set_cons_zero, List.set_cons_succ, List.getElem_toArray, List.getElem_cons_zero, List.getElem_cons_succ]
                      refine wpAnyH_take (i := 7) (v := ?_) rfl (by kernel_rfl) (by kernel_rfl) (by kernel_rfl) (fun _ _ _ h => h) (Or.inl ⟨by rfl, ?_⟩) (by assumption) ?_
                      rotate_left
                      · intro W hSW; (try dsimp only at hSW); go_simp; try with_reducible rfl
                      try simp only [Act.put, List.setIfInBounds_toArray, List.set_cons_zero, List.set_cons_succ, List.getElem_toArray, List.getElem_cons_zero, List.getElem_cons_succ]
                      refine wpAnyH_done (by kernel_rfl) ?_ _
                      refine NoPanic.normal ?_
                      go_wp2_with fail
                      go_meet
                      exact ⟨g7, c7, rfl, HO7, HB7⟩
              · go_simp
                refine hK.out _ _ (by exact ⟨cell_up (by repeat (first | exact Below.refl _ _ | exact HBF.out | exact HB7.out | refine up_drew ?_ | refine up_alloc ?_ _)) m60, cell_up (by repeat (first | exact Below.refl _ _ | exact HBF.out | exact HB7.out | refine up_drew ?_ | refine up_alloc ?_ _)) m61, cell_up (by repeat (first | exact Below.refl _ _ | exact HBF.out | exact HB7.out | refine up_drew ?_ | refine up_alloc ?_ _)) n60, cell_up (by repeat (first | exact Below.refl _ _ | exact HBF.out | exact HB7.out | refine up_drew ?_ | refine up_alloc ?_ _)) n61⟩) (fun hHeld => ?_)
                clear hK
                try simp only [Act.put, List.setIfInBounds_toArray, List.set_cons_zero, List.set_cons_succ, List.getElem_toArray, List.getElem_cons_zero, List.getElem_cons_succ]
                refine wpAnyH_ready (rs := [1, 5]) (by kernel_rfl) (by simp) ?_
                refine AllReadyH.cons rfl (fun K hK => ?_) (AllReadyH.cons rfl (fun K hK => ?_) AllReadyH.nil)
                · go_simp
                  refine hK.out _ _ (by exact ⟨cell_up (by repeat (first | exact Below.refl _ _ | exact HBF.out | exact HB7.out | refine up_drew ?_ | refine up_alloc ?_ _)) m60, cell_up (by repeat (first | exact Below.refl _ _ | exact HBF.out | exact HB7.out | refine up_drew ?_ | refine up_alloc ?_ _)) m61, cell_up (by repeat (first | exact Below.refl _ _ | exact HBF.out | exact HB7.out | refine up_drew ?_ | refine up_alloc ?_ _)) n60, cell_up (by repeat (first | exact Below.refl _ _ | exact HBF.out | exact HB7.out | refine up_drew ?_ | refine up_alloc ?_ _)) n61⟩) (fun hHeld => ?_)
                  clear hK
                  try simp only [Act.put, List.setIfInBounds_toArray, List.set_cons_zero, List.set_cons_succ, List.getElem_toArray, List.getElem_cons_zero, List.getElem_cons_succ]
                  refine wpAnyH_ready (rs := [5]) (by kernel_rfl) (by simp) ?_
                  refine AllReadyH.cons rfl (fun K hK => ?_) AllReadyH.nil
                  · go_simp
                    go_at_call 103
                    refine (HFD.out _ _ _ (by repeat (first | exact Below.refl _ _ | exact HBF.out | exact HB7.out | refine up_drew ?_ | refine up_alloc ?_ _)) (SOwn.up (own_nilH (wb.alloc (.cells #[] 9)) wb.heap.size (by simp <;> omega) 9 _ (by simp <;> omega)) (by repeat (first | exact Below.refl _ _ | exact HBF.out | exact HB7.out | refine up_drew ?_ | refine up_alloc ?_ _)))).mono ?_
                    rintro e w6 ⟨g6, c6, rfl, ho6, hb6⟩
                    have HO1 := Lib.hid ho6
                    have HBF := Lib.hid hb6
                    clear ho6 hb6
                    refine hK.out _ _ (by exact ⟨cell_up (by repeat (first | exact Below.refl _ _ | exact HBF.out | exact HB7.out | refine up_drew ?_ | refine up_alloc ?_ _)) m60, cell_up (by repeat (first | exact Below.refl _ _ | exact HBF.out | exact HB7.out | refine up_drew ?_ | refine up_alloc ?_ _)) m61, cell_up (by repeat (first | exact Below.refl _ _ | exact HBF.out | exact HB7.out | refine up_drew ?_ | refine up_alloc ?_ _)) n60, cell_up (by repeat (first | exact Below.refl _ _ | exact HBF.out | exact HB7.out | refine up_drew ?_ | refine up_alloc ?_ _)) n61⟩) (fun hHeld => ?_)
                    clear hK
                    try simp only [Act.put, List.setIfInBounds_toArray, List.set_cons_zero, List.set_cons_succ, List.getElem_toArray, List.getElem_cons_zero, List.getElem_cons_succ]
                    refine wpAnyH_ready (rs := [6]) (by kernel_rfl) (by simp) ?_
                    refine AllReadyH.cons rfl (fun K hK => ?_) AllReadyH.nil
                    · go_simp
                      go_at_call 103
                      refine (HFC.out _ _ _ _ (by repeat (first | exact Below.refl _ _ | exact HBF.out | exact HB7.out | refine up_drew ?_ | refine up_alloc ?_ _)) (HO1.out.up (by repeat (first | exact Below.refl _ _ | exact HBF.out | exact HB7.out | refine up_drew ?_ | refine up_alloc ?_ _)))).mono ?_
                      rintro e w7 ⟨g7, c7, rfl, ho7, hb7⟩
                      have HO7 := Lib.hid ho7
                      have HB7 := Lib.hid hb7
                      clear ho7 hb7
                      refine hK.out _ _ (by exact ⟨cell_up (by repeat (first | exact Below.refl _ _ | exact HBF.out | exact HB7.out | refine up_drew ?_ | refine up_alloc ?_ _)) m60, cell_up (by repeat (first | exact Below.refl _ _ | exact HBF.out | exact HB7.out | refine up_drew ?_ | refine up_alloc ?_ _)) m61, cell_up (by repeat (first | exact Below.refl _ _ | exact HBF.out | exact HB7.out | refine up_drew ?_ | refine up_alloc ?_ _)) n60, cell_up (by repeat (first | exact Below.refl _ _ | exact HBF.out | exact HB7.out | refine up_drew ?_ | refine up_alloc ?_ _)) n61⟩) (fun hHeld => ?_)
                      clear hK
                      try simp only [Act.put, List.setIfInBounds_toArray, List.set_cons_zero, List.set_cons_succ, List.getElem_toArray, List.getElem_cons_zero, List.getElem_cons_succ]
                      refine wpAnyH_take (i := 7) (v := ?_) rfl (by kernel_rfl) (by kernel_rfl) (by kernel_rfl) (fun _ _ _ h => h) (Or.inl ⟨by rfl, ?_⟩) (by assumption) ?_
                      rotate_left
                      · intro W hSW; (try dsimp only at hSW); go_simp; try with_reducible rfl
                      try simp only [Act.put, List.setIfInBounds_toArray, List.set_cons_zero, List.set_cons_succ, List.getElem_toArray, List.getElem_cons_zero, List.getElem_cons_succ]
                      refine wpAnyH_done (by kernel_rfl) ?_ _
                      refine NoPanic.normal ?_
                      go_wp2_with fail
                      go_meet
                      exact ⟨g7, c7, rfl, HO7, HB7⟩
                · go_simp
                  go_at_call 103
                  refine (HFD.out _ _ _ (by repeat (first | exact Below.refl _ _ | exact HBF.out | exact HB7.out | refine up_drew ?_ | refine up_alloc ?_ _)) (SOwn.up (own_nilH (wb.alloc (.cells #[] 9)) wb.heap.size (by simp <;> omega) 9 _ (by simp <;> omega)) (by repeat (first | exact Below.refl _ _ | exact HBF.out | exact HB7.out | refine up_drew ?_ | refine up_alloc ?_ _)))).mono ?_
                  rintro e w6 ⟨g6, c6, rfl, ho6, hb6⟩
                  have HO1 := Lib.hid ho6
                  have HBF := Lib.hid hb6
                  clear ho6 hb6
                  refine hK.out _ _ (by exact ⟨cell_up (by repeat (first | exact Below.refl _ _ | exact HBF.out | exact HB7.out | refine up_drew ?_ | refine up_alloc ?_ _)) m60, cell_up (by repeat (first | exact Below.refl _ _ | exact HBF.out | exact HB7.out | refine up_drew ?_ | refine up_alloc ?_ _)) m61, cell_up (by repeat (first | exact Below.refl _ _ | exact HBF.out | exact HB7.out | refine up_drew ?_ | refine up_alloc ?_ _)) n60, cell_up (by repeat (first | exact Below.refl _ _ | exact HBF.out | exact HB7.out | refine up_drew ?_ | refine up_alloc ?_ _)) n61⟩) (fun hHeld => ?_)
                  clear hK
                  try simp only [Act.put, List.setIfInBounds_toArray, List.set_cons_zero, List.set_cons_succ, List.getElem_toArray, List.getElem_cons_zero, List.getElem_cons_succ]
                  refine wpAnyH_ready (rs := [1]) (by kernel_rfl) (by simp) ?_
                  refine AllReadyH.cons rfl (fun K hK => ?_) AllReadyH.nil
                  · go_simp
                    refine hK.out _ _ (by exact ⟨cell_up (by repeat (first | exact Below.refl _ _ | exact HBF.out | exact HB7.out | refine up_drew ?_ | refine up_alloc ?_ _)) m60, cell_up (by repeat (first | exact Below.refl _ _ | exact HBF.out | exact HB7.out | refine up_drew ?_ | refine up_alloc ?_ _)) m61, cell_up (by repeat (first | exact Below.refl _ _ | exact HBF.out | exact HB7.out | refine up_drew ?_ | refine up_alloc ?_ _)) n60, cell_up (by repeat (first | exact Below.refl _ _ | exact HBF.out | exact HB7.out | refine up_drew ?_ | refine up_alloc ?_ _)) n61⟩) (fun hHeld => ?_)
                    clear hK
                    try simp only [Act.put, List.setIfInBounds_toArray, List.set_cons_zero, List.set_cons_succ, List.getElem_toArray, List.getElem_cons_zero, List.getElem_cons_succ]
                    refine wpAnyH_ready (rs := [6]) (by kernel_rfl) (by simp) ?_
                    refine AllReadyH.cons rfl (fun K hK => ?_) AllReadyH.nil
                    · go_simp
                      go_at_call 103
                      refine (HFC.out _ _ _ _ (by repeat (first | exact Below.refl _ _ | exact HBF.out | exact HB7.out | refine up_drew ?_ | refine up_alloc ?_ _)) (HO1.out.up (by repeat (first | exact Below.refl _ _ | exact HBF.out | exact HB7.out | refine up_drew ?_ | refine up_alloc ?_ _)))).mono ?_
                      rintro e w7 ⟨g7, c7, rfl, ho7, hb7⟩
                      have HO7 := Lib.hid ho7
                      have HB7 := Lib.hid hb7
                      clear ho7 hb7
                      refine hK.out _ _ (by exact ⟨cell_up (by repeat (first | exact Below.refl _ _ | exact HBF.out | exact HB7.out | refine up_drew ?_ | refine up_alloc ?_ _)) m60, cell_up (by repeat (first | exact Below.refl _ _ | exact HBF.out | exact HB7.out | refine up_drew ?_ | refine up_alloc ?_ _)) m61, cell_up (by repeat (first | exact Below.refl _ _ | exact HBF.out | exact HB7.out | refine up_drew ?_ | refine up_alloc ?_ _)) n60, cell_up (by repeat (first | exact Below.refl _ _ | exact HBF.out | exact HB7.out | refine up_drew ?_ | refine up_alloc ?_ _)) n61⟩) (fun hHeld => ?_)
                      clear hK
                      try simp only [Act.put, List.setIfInBounds_toArray, List.set_cons_zero, List.set_cons_succ, List.getElem_toArray, List.getElem_cons_zero, List.getElem_cons_succ]
                      refine wpAnyH_take (i := 7) (v := ?_) rfl (by kernel_rfl) (by kernel_rfl) (by kernel_rfl) (fun _ _ _ h => h) (Or.inl ⟨by rfl, ?_⟩) (by assumption) ?_
                      rotate_left
                      · intro W hSW; (try dsimp only at hSW); go_simp; try with_reducible rfl
                      try simp only [Act.put, List.setIfInBounds_toArray, List.set_cons_zero, List.set_cons_succ, List.getElem_toArray, List.getElem_cons_zero, List.getElem_cons_succ]
                      refine wpAnyH_done (by kernel_rfl) ?_ _
                      refine NoPanic.normal ?_
                      go_wp2_with fail
                      go_meet
                      exact ⟨g7, c7, rfl, HO7, HB7⟩
            · go_simp
              refine hK.out _ _ (by exact ⟨cell_up (by repeat (first | exact Below.refl _ _ | exact HBF.out | exact HB7.out | refine up_drew ?_ | refine up_alloc ?_ _)) m60, cell_up (by repeat (first | exact Below.refl _ _ | exact HBF.out | exact HB7.out | refine up_drew ?_ | refine up_alloc ?_ _)) m61, cell_up (by repeat (first | exact Below.refl _ _ | exact HBF.out | exact HB7.out | refine up_drew ?_ | refine up_alloc ?_ _)) n60, cell_up (by repeat (first | exact Below.refl _ _ | exact HBF.out | exact HB7.out | refine up_drew ?_ | refine up_alloc ?_ _)) n61⟩) (fun hHeld => ?_)
              clear hK
              try simp only [Act.put, List.setIfInBounds_toArray, List.set_cons_zero, List.set_cons_succ, List.getElem_toArray, List.getElem_cons_zero, List.getElem_cons_succ]
              refine wpAnyH_ready (rs := [1, 3]) (by kernel_rfl) (by simp) ?_
              refine AllReadyH.cons rfl (fun K hK => ?_) (AllReadyH.cons rfl (fun K hK => ?_) AllReadyH.nil)
              · go_simp
                refine hK.out _ _ (by exact ⟨cell_up (by repeat (first | exact Below.refl _ _ | exact HBF.out | exact HB7.out | refine up_drew ?_ | refine up_alloc ?_ _)) m60, cell_up (by repeat (first | exact Below.refl _ _ | exact HBF.out | exact HB7.out | refine up_drew ?_ | refine up_alloc ?_ _)) m61, cell_up (by repeat (first | exact Below.refl _ _ | exact HBF.out | exact HB7.out | refine up_drew ?_ | refine up_alloc ?_ _)) n60, cell_up (by repeat (first | exact Below.refl _ _ | exact HBF.out | exact HB7.out | refine up_drew ?_ | refine up_alloc ?_ _)) n61⟩) (fun hHeld => ?_)
                clear hK
                try simp only [Act.put, List.setIfInBounds_toArray, List.set_cons_zero, List.set_cons_succ, List.getElem_toArray, List.getElem_cons_zero, List.getElem_cons_succ]
                refine wpAnyH_ready (rs := [3]) (by kernel_rfl) (by simp) ?_
                refine AllReadyH.cons rfl (fun K hK => ?_) AllReadyH.nil
                · go_simp
                  refine hK.out _ _ (by exact ⟨cell_up (by repeat (first | exact Below.refl _ _ | exact HBF.out | exact HB7.out | refine up_drew ?_ | refine up_alloc ?_ _)) m60, cell_up (by repeat (first | exact Below.refl _ _ | exact HBF.out | exact HB7.out | refine up_drew ?_ | refine up_alloc ?_ _)) m61, cell_up (by repeat (first | exact Below.refl _ _ | exact HBF.out | exact HB7.out | refine up_drew ?_ | refine up_alloc ?_ _)) n60, cell_up (by repeat (first | exact Below.refl _ _ | exact HBF.out | exact HB7.out | refine up_drew ?_ | refine up_alloc ?_ _)) n61⟩) (fun hHeld => ?_)
                  clear hK
                  try simp only [Act.put, List.setIfInBounds_toArray, List.set_cons_zero, List.set_cons_succ, List.getElem_toArray, List.getElem_cons_zero, List.getElem_cons_succ]
                  refine wpAnyH_ready (rs := [5]) (by kernel_rfl) (by simp) ?_
                  refine AllReadyH.cons rfl (fun K hK => ?_) AllReadyH.nil
                  · go_simp
                    go_at_call 103
                    refine (HFD.out _ _ _ (by repeat (first | exact Below.refl _ _ | exact HBF.out | exact HB7.out | refine up_drew ?_ | refine up_alloc ?_ _)) (SOwn.up (own_nilH wb wb.heap.size (by simp <;> omega) 9 _ (by simp <;> omega)) (by repeat (first | exact Below.refl _ _ | exact HBF.out | exact HB7.out | refine up_drew ?_ | refine up_alloc ?_ _)))).mono ?_
                    rintro e w6 ⟨g6, c6, rfl, ho6, hb6⟩
                    have HO1 := Lib.hid ho6
                    have HBF := Lib.hid hb6
                    clear ho6 hb6
                    refine hK.out _ _ (by exact ⟨cell_up (by repeat (first | exact Below.refl _ _ | exact HBF.out | exact HB7.out | refine up_drew ?_ | refine up_alloc ?_ _)) m60, cell_up (by repeat (first | exact Below.refl _ _ | exact HBF.out | exact HB7.out | refine up_drew ?_ | refine up_alloc ?_ _)) m61, cell_up (by repeat (first | exact Below.refl _ _ | exact HBF.out | exact HB7.out | refine up_drew ?_ | refine up_alloc ?_ _)) n60, cell_up (by repeat (first | exact Below.refl _ _ | exact HBF.out | exact HB7.out | refine up_drew ?_ | refine up_alloc ?_ _)) n61⟩) (fun hHeld => ?_)
                    clear hK
                    try simp only [Act.put, List.setIfInBounds_toArray, List.set_cons_zero, List.set_cons_succ, List.getElem_toArray, List.getElem_cons_zero, List.getElem_cons_succ]
                    refine wpAnyH_ready (rs := [6]) (by kernel_rfl) (by simp) ?_
                    refine AllReadyH.cons rfl (fun K hK => ?_) AllReadyH.nil
                    · go_simp
                      go_at_call 103
                      refine (HFC.out _ _ _ _ (by repeat (first | exact Below.refl _ _ | exact HBF.out | exact HB7.out | refine up_drew ?_ | refine up_alloc ?_ _)) (HO1.out.up (by repeat (first | exact Below.refl _ _ | exact HBF.out | exact HB7.out | refine up_drew ?_ | refine up_alloc ?_ _)))).mono ?_
                      rintro e w7 ⟨g7, c7, rfl, ho7, hb7⟩
                      have HO7 := Lib.hid ho7
                      have HB7 := Lib.hid hb7
                      clear ho7 hb7
                      refine hK.out _ _ (by exact ⟨cell_up (by repeat (first | exact Below.refl _ _ | exact HBF.out | exact HB7.out | refine up_drew ?_ | refine up_alloc ?_ _)) m60, cell_up (by repeat (first | exact Below.refl _ _ | exact HBF.out | exact HB7.out | refine up_drew ?_ | refine up_alloc ?_ _)) m61, cell_up (by repeat (first | exact Below.refl _ _ | exact HBF.out | exact HB7.out | refine up_drew ?_ | refine up_alloc ?_ _)) n60, cell_up (by repeat (first | exact Below.refl _ _ | exact HBF.out | exact HB7.out | refine up_drew ?_ | refine up_alloc ?_ _)) n61⟩) (fun hHeld => ?_)
                      clear hK
                      try simp only [Act.put, List.setIfInBounds_toArray, List.set_cons_zero, List.set_cons_succ, List.getElem_toArray, List.getElem_cons_zero, List.getElem_cons_succ]
                      refine wpAnyH_take (i := 7) (v := ?_) rfl (by kernel_rfl) (by kernel_rfl) (by kernel_rfl) (fun _ _ _ h => h) (Or.inl ⟨by rfl, ?_⟩) (by assumption) ?_
                      rotate_left
                      · intro W hSW; (try dsimp only at hSW); go_simp; try with_reducible rfl
                      try simp only [Act.put, List.setIfInBounds_toArray, List.set_cons_zero, List.set_cons_succ, List.getElem_toArray, List.getElem_cons_zero, List.getElem_cons_succ]
                      refine wpAnyH_done (by kernel_rfl) ?_ _
                      refine NoPanic.normal ?_
                      go_wp2_with fail
                      go_meet
                      exact ⟨g7, c7, rfl, HO7, HB7⟩
              · go_simp
                refine hK.out _ _ (by exact ⟨cell_up (by repeat (first | exact Below.refl _ _ | exact HBF.out | exact HB7.out | refine up_drew ?_ | refine up_alloc ?_ _)) m60, cell_up (by repeat (first | exact Below.refl _ _ | exact HBF.out | exact HB7.out | refine up_drew ?_ | refine up_alloc ?_ _)) m61, cell_up (by repeat (first | exact Below.refl _ _ | exact HBF.out | exact HB7.out | refine up_drew ?_ | refine up_alloc ?_ _)) n60, cell_up (by repeat (first | exact Below.refl _ _ | exact HBF.out | exact HB7.out | refine up_drew ?_ | refine up_alloc ?_ _)) n61⟩) (fun hHeld => ?_)
                clear hK
                try simp only [Act.put, List.setIfInBounds_toArray, List.set_cons_zero, List.set_cons_succ, List.getElem_toArray, List.getElem_cons_zero, List.getElem_cons_succ]
                refine wpAnyH_ready (rs := [1, 5]) (by kernel_rfl) (by simp) ?_
                refine AllReadyH.cons rfl (fun K hK => ?_) (AllReadyH.cons rfl (fun K hK => ?_) AllReadyH.nil)
                · go_simp
                  refine hK.out _ _ (by exact ⟨cell_up (by repeat (first | exact Below.refl _ _ | exact HBF.out | exact HB7.out | refine up_drew ?_ | refine up_alloc ?_ _)) m60, cell_up (by repeat (first | exact Below.refl _ _ | exact HBF.out | exact HB7.out | refine up_drew ?_ | refine up_alloc ?_ _)) m61, cell_up (by repeat (first | exact Below.refl _ _ | exact HBF.out | exact HB7.out | refine up_drew ?_ | refine up_alloc ?_ _)) n60, cell_up (by repeat (first | exact Below.refl _ _ | exact HBF.out | exact HB7.out | refine up_drew ?_ | refine up_alloc ?_ _)) n61⟩) (fun hHeld => ?_)
                  clear hK
                  try simp only [Act.put, List.setIfInBounds_toArray, List.set_cons_zero, List.set_cons_succ, List.getElem_toArray, List.getElem_cons_zero, List.getElem_cons_succ]
                  refine wpAnyH_ready (rs := [5]) (by kernel_rfl) (by simp) ?_
                  refine AllReadyH.cons rfl (fun K hK => ?_) AllReadyH.nil
                  · go_simp
                    go_at_call 103
                    refine (HFD.out _ _ _ (by repeat (first | exact Below.refl _ _ | exact HBF.out | exact HB7.out | refine up_drew ?_ | refine up_alloc ?_ _)) (SOwn.up (own_nilH wb wb.heap.size (by simp <;> omega) 9 _ (by simp <;> omega)) (by repeat (first | exact Below.refl _ _ | exact HBF.out | exact HB7.out | refine up_drew ?_ | refine up_alloc ?_ _)))).mono ?_
                    rintro e w6 ⟨g6, c6, rfl, ho6, hb6⟩
                    have HO1 := Lib.hid ho6
                    have HBF := Lib.hid hb6
                    clear ho6 hb6
                    refine hK.out _ _ (by exact ⟨cell_up (by repeat (first | exact Below.refl _ _ | exact HBF.out | exact HB7.out | refine up_drew ?_ | refine up_alloc ?_ _)) m60, cell_up (by repeat (first | exact Below.refl _ _ | exact HBF.out | exact HB7.out | refine up_drew ?_ | refine up_alloc ?_ _)) m61, cell_up (by repeat (first | exact Below.refl _ _ | exact HBF.out | exact HB7.out | refine up_drew ?_ | refine up_alloc ?_ _)) n60, cell_up (by repeat (first | exact Below.refl _ _ | exact HBF.out | exact HB7.out | refine up_drew ?_ | refine up_alloc ?_ _)) n61⟩) (fun hHeld => ?_)
                    clear hK
                    try simp only [Act.put, List.setIfInBounds_toArray, List.set_cons_zero, List.set_cons_succ, List.getElem_toArray, List.getElem_cons_zero, List.getElem_cons_succ]
                    refine wpAnyH_ready (rs := [6]) (by kernel_rfl) (by simp) ?_
                    refine AllReadyH.cons rfl (fun K hK => ?_) AllReadyH.nil
                    · go_simp
                      go_at_call 103
                      refine (HFC.out _ _ _ _ (by repeat (first | exact Below.refl _ _ | exact HBF.out | exact HB7.out | refine up_drew ?_ | refine up_alloc ?_ _)) (HO1.out.up (by repeat (first | exact Below.refl _ _ | exact HBF.out | exact HB7.out | refine up_drew ?_ | refine up_alloc ?_ _)))).mono ?_
                      rintro e w7 ⟨g7, c7, rfl, ho7, hb7⟩
                      have HO7 := Lib.hid ho7
                      have HB7 := Lib.hid hb7
                      clear ho7 hb7
                      refine hK.out _ _ (by exact ⟨cell_up (by repeat (first | exact Below.refl _ _ | exact HBF.out | exact HB7.out | refine up_drew ?_ | refine up_alloc ?_ _)) m60, cell_up (by repeat (first | exact Below.refl _ _ | exact HBF.out | exact HB7.out | refine up_drew ?_ | refine up_alloc ?_ _)) m61, cell_up (by repeat (first | exact Below.refl _ _ | exact HBF.out | exact HB7.out | refine up_drew ?_ | refine up_alloc ?_ _)) n60, cell_up (by repeat (first | exact Below.refl _ _ | exact HBF.out | exact HB7.out | refine up_drew ?_ | refine up_alloc ?_ _)) n61⟩) (fun hHeld => ?_)
                      clear hK
                      try simp only [Act.put, List.setIfInBounds_toArray, List.set_cons_zero, List.set_cons_succ, List.getElem_toArray, List.getElem_cons_zero, List.getElem_cons_succ]
                      refine wpAnyH_take (i := 7) (v := ?_) rfl (by kernel_rfl) (by kernel_rfl) (by kernel_rfl) (fun _ _ _ h => h) (Or.inl ⟨by rfl, ?_⟩) (by assumption) ?_
                      rotate_left
                      · intro W hSW; (try dsimp only at hSW); go_simp; try with_reducible rfl
                      try simp only [Act.put, List.setIfInBounds_toArray, List.set_cons_zero, List.set_cons_succ, List.getElem_toArray, List.getElem_cons_zero, List.getElem_cons_succ]
                      refine wpAnyH_done (by kernel_rfl) ?_ _
                      refine NoPanic.normal ?_
                      go_wp2_with fail
                      go_meet
                      exact ⟨g7, c7, rfl, HO7, HB7⟩
                · go_simp
                  go_at_call 103
                  refine (HFD.out _ _ _ (by repeat (first | exact Below.refl _ _ | exact HBF.out | exact HB7.out | refine up_drew ?_ | refine up_alloc ?_ _)) (SOwn.up (own_nilH wb wb.heap.size (by simp <;> omega) 9 _ (by simp <;> omega)) (by repeat (first | exact Below.refl _ _ | exact HBF.out | exact HB7.out | refine up_drew ?_ | refine up_alloc ?_ _)))).mono ?_
                  rintro e w6 ⟨g6, c6, rfl, ho6, hb6⟩
                  have HO1 := Lib.hid ho6
                  have HBF := Lib.hid hb6
                  clear ho6 hb6
                  refine hK.out _ _ (by exact ⟨cell_up (by repeat (first | exact Below.refl _ _ | exact HBF.out | exact HB7.out | refine up_drew ?_ | refine up_alloc ?_ _)) m60, cell_up (by repeat (first | exact Below.refl _ _ | exact HBF.out | exact HB7.out | refine up_drew ?_ | refine up_alloc ?_ _)) m61, cell_up (by repeat (first | exact Below.refl _ _ | exact HBF.out | exact HB7.out | refine up_drew ?_ | refine up_alloc ?_ _)) n60, cell_up (by repeat (first | exact Below.refl _ _ | exact HBF.out | exact HB7.out | refine up_drew ?_ | refine up_alloc ?_ _)) n61⟩) (fun hHeld => ?_)
                  clear hK
                  try simp only [Act.put, List.setIfInBounds_toArray, List.set_cons_zero, List.set_cons_succ, List.getElem_toArray, List.getElem_cons_zero, List.getElem_cons_succ]
                  refine wpAnyH_ready (rs := [1]) (by kernel_rfl) (by simp) ?_
                  refine AllReadyH.cons rfl (fun K hK => ?_) AllReadyH.nil
                  · go_simp
                    refine hK.out _ _ (by exact ⟨cell_up (by repeat (first | exact Below.refl _ _ | exact HBF.out | exact HB7.out | refine up_drew ?_ | refine up_alloc ?_ _)) m60, cell_up (by repeat (first | exact Below.refl _ _ | exact HBF.out | exact HB7.out | refine up_drew ?_ | refine up_alloc ?_ _)) m61, cell_up (by repeat (first | exact Below.refl _ _ | exact HBF.out | exact HB7.out | refine up_drew ?_ | refine up_alloc ?_ _)) n60, cell_up (by repeat (first | exact Below.refl _ _ | exact HBF.out | exact HB7.out | refine up_drew ?_ | refine up_alloc ?_ _)) n61⟩) (fun hHeld => ?_)
                    clear hK
                    try simp only [Act.put, List.setIfInBounds_toArray, List.set_cons_zero, List.set_cons_succ, List.getElem_toArray, List.getElem_cons_zero, List.getElem_cons_succ]
                    refine wpAnyH_ready (rs := [6]) (by kernel_rfl) (by simp) ?_
                    refine AllReadyH.cons rfl (fun K hK => ?_) AllReadyH.nil
                    · go_simp
                      go_at_call 103
                      refine (HFC.out _ _ _ _ (by repeat (first | exact Below.refl _ _ | exact HBF.out | exact HB7.out | refine up_drew ?_ | refine up_alloc ?_ _)) (HO1.out.up (by repeat (first | exact Below.refl _ _ | exact HBF.out | exact HB7.out | refine up_drew ?_ | refine up_alloc ?_ _)))).mono ?_
                      rintro e w7 ⟨g7, c7, rfl, ho7, hb7⟩
                      have HO7 := Lib.hid ho7
                      have HB7 := Lib.hid hb7
                      clear ho7 hb7
                      refine hK.out _ _ (by exact ⟨cell_up (by repeat (first | exact Below.refl _ _ | exact HBF.out | exact HB7.out | refine up_drew ?_ | refine up_alloc ?_ _)) m60, cell_up (by repeat (first | exact Below.refl _ _ | exact HBF.out | exact HB7.out | refine up_drew ?_ | refine up_alloc ?_ _)) m61, cell_up (by repeat (first | exact Below.refl _ _ | exact HBF.out | exact HB7.out | refine up_drew ?_ | refine up_alloc ?_ _)) n60, cell_up (by repeat (first | exact Below.refl _ _ | exact HBF.out | exact HB7.out | refine up_drew ?_ | refine up_alloc ?_ _)) n61⟩) (fun hHeld => ?_)
                      clear hK
                      try simp only [Act.put, List.setIfInBounds_toArray, List.set_cons_zero, List.set_cons_succ, List.getElem_toArray, List.getElem_cons_zero, List.getElem_cons_succ]
                      refine wpAnyH_take (i := 7) (v := ?_) rfl (by kernel_rfl) (by kernel_rfl) (by kernel_rfl) (fun _ _ _ h => h) (Or.inl ⟨by rfl, ?_⟩) (by assumption) ?_
                      rotate_left
                      · intro W hSW; (try dsimp only at hSW); go_simp; try with_reducible rfl
                      try simp only [Act.put, List.setIfInBounds_toArray, List.set_cons_zero, List.set_cons_succ, List.getElem_toArray, List.getElem_cons_zero, List.getElem_cons_succ]
                      refine wpAnyH_done (by kernel_rfl) ?_ _
                      refine NoPanic.normal ?_
                      go_wp2_with fail
                      go_meet
                      exact ⟨g7, c7, rfl, HO7, HB7⟩
          case rest =>
            obtain ⟨g, cF, rfl, HO7, HB7⟩ := hcut
            have HSC := Lib.hid HO7.out.reads
            have HB8 : Hid (Below w.heap.size w wc) := up_trans HB6.out HB7.out
            have R8 := Lib.hid (block_up HB7.out R6.out)
            have M8 := Lib.hid (block_up HB7.out M6.out)
            have N8 := Lib.hid (block_up HB7.out N6.out)
            have HTC8 := Lib.hid (HTC6.out.up HB7.out)
            have HTD8 := Lib.hid (HTD6.out.up HB7.out)
            have hsz8 : w.heap.size + 2 ≤ wc.heap.size := lt_of_block R8.out
            have HDEC : Hid (∀ (w1 : World) (j : Nat), j ≤ 30000000 → Calls Tryz.prog 148 #[.int .i64 j] w1 fun e w' => ∃ b : ByteArray, b = St (decL j) ∧ b.size ≤ 9 ∧ e = .returned (.string b) ∧ Below w1.heap.size w1 w') := fun w1 j hj =>
              (l6Dec_any j w1 (by omega)).mono fun e w' ⟨h1, h2⟩ => ⟨_, rfl, decL_len 8 j (by omega), h1, h2⟩
            have HHAS : Hid (∀ (w1 : World) (j : Nat) (b : ByteArray), b = St (decL j) → Below wc.heap.size wc w1 → Calls Tryz.prog 157 #[.slice (some ⟨g, 0, none⟩) FF.length cF, .string (⟨#[116]⟩ ++ b)] w1 fun e w' => e = .returned (.bool (decide (tN j ∈ FF))) ∧ Below w1.heap.size w1 w') := fun w1 j b hb hw => by
              subst hb
              rw [tN_cat]
              exact l1Has_any FF (some ⟨g, 0, none⟩) cF (tN j) w1 (by omega) (HSC.out.up hw)
            clear HFD HFC n60 n61 m60 m61 HO7 HB7 R6 M6 N6 HTC6 HTD6 HB6 HSC z1 z2 z3
            generalize FF.length = nF at *
            go_wp2_with fail
            go_loopg [17] nF (fun m v17 wr => ∃ k' : Nat, v17 = .int .i64 k' ∧ Hid (fresh FF m k' = K ∧ k' + m ≤ 2000) ∧ Hid (Below wc.heap.size wc wr))
            case atStart => exact ⟨0, rfl, ⟨HK0.out, by omega⟩, Below.refl _ _⟩
            case round =>
              obtain ⟨k', rfl, HKQ, HBR⟩ := hrel
              have hkk := HKQ.out
              have hk9 : (k' : Int) ≤ 2000 := by omega
              have HDW : Hid (∀ w1 : World, Calls Tryz.prog 148 #[.int .i64 (k' : Int)] w1 fun e w' => ∃ b : ByteArray, b = St (decL k') ∧ b.size ≤ 9 ∧ e = .returned (.string b) ∧ Below w1.heap.size w1 w') := fun w1 => HDEC.out w1 k' (by omega)
              have HHW : Hid (∀ (w1 : World) (b : ByteArray), b = St (decL k') → Below wc.heap.size wc w1 → Calls Tryz.prog 157 #[.slice (some ⟨g, 0, none⟩) nF cF, .string (⟨#[116]⟩ ++ b)] w1 fun e w' => e = .returned (.bool (decide (tN k' ∈ FF))) ∧ Below w1.heap.size w1 w') := fun w1 b => HHAS.out w1 k' b
              by_cases hm : tN k' ∈ FF
              · rw [decide_eq_true hm] at HHW
                cases gk with
                | zero =>
                  exfalso
                  have h1 : k' = K := hkk.1
                  rw [h1] at hm
                  exact HKN.out hm
                | succ m =>
                  have HK2 : Hid (fresh FF m (k' + 1) = K ∧ k' + 1 + m ≤ 2000) := by
                    refine ⟨?_, by omega⟩
                    have := hkk.1
                    rw [fresh, if_pos hm] at this
                    exact this
                  clear hm hkk HKQ HDEC HHAS
                  go_wp2_with (first
                    | (go_at_call 148; (with_reducible refine (HDW.out _).mono ?_); rintro e w9 ⟨b9, hb9, hbs9, rfl, hbl9⟩; have HB9 := Lib.hid hb9; have HL9 := Lib.hid (up_trans HBR.out hbl9); clear hb9 hbl9)
                    | (go_at_call 157; (with_reducible refine (HHW.out _ _ HB9.out HL9.out).mono ?_); rintro e w10 ⟨rfl, hb10⟩; have HL10 := Lib.hid (up_trans HL9.out hb10); clear hb10))
                  go_roundg m
                  case measure => omega
                  case rel => exact ⟨k' + 1, rfl, HK2, HL10⟩
              · rw [decide_eq_false hm] at HHW
                have hkK : k' = K := by
                  have := hkk.1
                  rw [fresh_stop hm] at this
                  exact this
                subst hkK
                clear hm hkk HKQ HDEC HHAS HK0 HKN
                go_upto_region 16 with (first
                  | (go_at_call 148; first
                    | (have HL10q := HL10.out; clear HL10; (with_reducible refine (HDW.out _).mono ?_); rintro e w11 ⟨b11, hb11, hbs11, rfl, hbl11⟩; have HB11 := Lib.hid hb11; have HL11 := Lib.hid (up_trans HL10q hbl11); clear hb11 hbl11)
                    | ((with_reducible refine (HDW.out _).mono ?_); rintro e w9 ⟨b9, hb9, hbs9, rfl, hbl9⟩; have HB9 := Lib.hid hb9; have HL9 := Lib.hid (up_trans HBR.out hbl9); clear hb9 hbl9))
                  | (go_at_call 157; (with_reducible refine (HHW.out _ _ HB9.out HL9.out).mono ?_); rintro e w10 ⟨rfl, hb10⟩; have HL10 := Lib.hid (up_trans HL9.out hb10); clear hb10))
                have HBW : Hid (Below w.heap.size w (w11.alloc (.cells #[.string (⟨#[116]⟩ ++ b11), .slice none 0 0] 59))) := up_alloc (up_trans HB8.out HL11.out) _
                have RW := Lib.hid (block_alloc (block_up HL11.out R8.out) (.cells #[.string (⟨#[116]⟩ ++ b11), .slice none 0 0] 59))
                have MW := Lib.hid (block_alloc (block_up HL11.out M8.out) (.cells #[.string (⟨#[116]⟩ ++ b11), .slice none 0 0] 59))
                have NW := Lib.hid (block_alloc (block_up HL11.out N8.out) (.cells #[.string (⟨#[116]⟩ ++ b11), .slice none 0 0] 59))
                have FW := Lib.hid (block_new w11 (.cells #[.string (⟨#[116]⟩ ++ b11), .slice none 0 0] 59))
                have HTCW := Lib.hid ((HTC8.out.up HL11.out).up (up1 w11 (.cells #[.string (⟨#[116]⟩ ++ b11), .slice none 0 0] 59)))
                have HTDW := Lib.hid ((HTD8.out.up HL11.out).up (up1 w11 (.cells #[.string (⟨#[116]⟩ ++ b11), .slice none 0 0] 59)))
                have HXF : Hid ((⟨#[116]⟩ : ByteArray) ++ b11 = St (tN k')) := by
                  show (⟨#[116]⟩ : ByteArray) ++ b11 = St (tN k')
                  rw [HB11.out, tN_cat]
                clear HB11 HL11 hbs11 HB9 HL9 HL10q HDW HHW HBR HB8 R8 M8 N8 HTC8 HTD8
                generalize (⟨#[116]⟩ : ByteArray) ++ b11 = xf at *
                generalize w11.alloc (.cells #[.string xf, .slice none 0 0] 59) = wf at *
                generalize w11.heap.size = gf at *
                obtain rfl : xf = St (tN k') := HXF.out
                clear HXF
                have HTFW : Hid (∀ w1 PP, TAt w1 PP (.mk (tN k') []) (.agg #[.string (St (tN k')), .slice none 0 0])) := fun w1 PP => TAt.leaf_ w1 _ _
                have HL1 : Hid (∀ (PP : Nat → Prop) (W : World) (gp : Nat) (x2 x5 : ByteArray) (B2 B5 : Option Addr) (n2 c2 n5 c5 : Nat), (∀ k, W.heap.size ≤ k → PP k) → W.heap[gp]? = some (.cells #[.string x2, .slice B2 n2 c2, .string x5, .slice B5 n5 c5] 59 (0, 0)) → TAt W PP (d.toTr) (.agg #[.string x2, .slice B2 n2 c2]) → TAt W PP (.mk (tN k') []) (.agg #[.string x5, .slice B5 n5 c5]) → Calls Tryz.prog 71 #[.string ⟨#[42]⟩, .slice (some ⟨gp, 0, none⟩) 2 2] W fun e w' => (∃ x A n cq, e = .returned (.agg #[.string x, .slice A n cq]) ∧ TAt w' PP (NT.prod d (.name (tN k'))).toTr (.agg #[.string x, .slice A n cq])) ∧ Below W.heap.size W w') := fun PP W gp x2 x5 B2 B5 n2 c2 n5 c5 hP hr h1 h2 => list2W [42] (NT.prod d (.name (tN k'))) (d.toTr) (.mk (tN k') []) rfl W gp x2 x5 B2 B5 n2 c2 n5 c5 PP hP hr h1 h2
                have HL2 : Hid (∀ (PP : Nat → Prop) (W : World) (gp : Nat) (x2 x5 : ByteArray) (B2 B5 : Option Addr) (n2 c2 n5 c5 : Nat), (∀ k, W.heap.size ≤ k → PP k) → W.heap[gp]? = some (.cells #[.string x2, .slice B2 n2 c2, .string x5, .slice B5 n5 c5] 59 (0, 0)) → TAt W PP (c.toTr) (.agg #[.string x2, .slice B2 n2 c2]) → TAt W PP ((NT.prod d (.name (tN k'))).toTr) (.agg #[.string x5, .slice B5 n5 c5]) → Calls Tryz.prog 71 #[.string ⟨#[43]⟩, .slice (some ⟨gp, 0, none⟩) 2 2] W fun e w' => (∃ x A n cq, e = .returned (.agg #[.string x, .slice A n cq]) ∧ TAt w' PP (NT.sum c (.prod d (.name (tN k')))).toTr (.agg #[.string x, .slice A n cq])) ∧ Below W.heap.size W w') := fun PP W gp x2 x5 B2 B5 n2 c2 n5 c5 hP hr h1 h2 => list2W [43] (NT.sum c (.prod d (.name (tN k')))) (c.toTr) ((NT.prod d (.name (tN k'))).toTr) rfl W gp x2 x5 B2 B5 n2 c2 n5 c5 PP hP hr h1 h2
                have HL3 : Hid (∀ (PP : Nat → Prop) (W : World) (gp : Nat) (x2 x5 : ByteArray) (B2 B5 : Option Addr) (n2 c2 n5 c5 : Nat), (∀ k, W.heap.size ≤ k → PP k) → W.heap[gp]? = some (.cells #[.string x2, .slice B2 n2 c2, .string x5, .slice B5 n5 c5] 59 (0, 0)) → TAt W PP (.mk (tN k') []) (.agg #[.string x2, .slice B2 n2 c2]) → TAt W PP ((NT.sum c (.prod d (.name (tN k')))).toTr) (.agg #[.string x5, .slice B5 n5 c5]) → Calls Tryz.prog 71 #[.string ⟨#[114, 101, 99]⟩, .slice (some ⟨gp, 0, none⟩) 2 2] W fun e w' => (∃ x A n cq, e = .returned (.agg #[.string x, .slice A n cq]) ∧ TAt w' PP (NT.loop (tN k') (.sum c (.prod d (.name (tN k'))))).toTr (.agg #[.string x, .slice A n cq])) ∧ Below W.heap.size W w') := fun PP W gp x2 x5 B2 B5 n2 c2 n5 c5 hP hr h1 h2 => list2W [114, 101, 99] (NT.loop (tN k') (.sum c (.prod d (.name (tN k'))))) (.mk (tN k') []) ((NT.sum c (.prod d (.name (tN k')))).toTr) rfl W gp x2 x5 B2 B5 n2 c2 n5 c5 PP hP hr h1 h2
                have HLA : Hid (LA (NT.loop (tN k') (.sum c (.prod d (.name (tN k'))))).toTr (NT.loop (tN k') (.sum c (.prod d (.name (tN k'))))).atoms) := l1Atoms_any3 _ HOUTD.out.1 (by simp only [NT.atoms]; omega)
                have hd : (decide (((NT.loop (tN k') (.sum c (.prod d (.name (tN k'))))).atoms : Int) ≤ 400)) = decide ((NT.loop (tN k') (.sum c (.prod d (.name (tN k'))))).atoms ≤ 400) := by simp; omega
                generalize decide ((NT.loop (tN k') (.sum c (.prod d (.name (tN k'))))).atoms ≤ 400) = bb at *
                generalize (NT.loop (tN k') (.sum c (.prod d (.name (tN k'))))).atoms = n0 at *
                generalize NT.loop (tN k') (.sum c (.prod d (.name (tN k')))) = res at *
                generalize (NT.sum c (.prod d (.name (tN k')))).toTr = tsum at *
                generalize (NT.prod d (.name (tN k'))).toTr = tprod at *
                generalize tN k' = tk at *
                generalize St tk = xf at *
                have hRW := lt_of_block RW.out
                have sW : wf.cell? ⟨gf, 0, none⟩ = some (.string xf) ∧ wf.cell? ⟨gf, 1, none⟩ = some (.slice none 0 0) ∧ wf.cell? ⟨gc, 0, none⟩ = some (.string x4) ∧ wf.cell? ⟨gc, 1, none⟩ = some (.slice B4 m4 c4') ∧ wf.cell? ⟨gd, 0, none⟩ = some (.string x5) ∧ wf.cell? ⟨gd, 1, none⟩ = some (.slice B5 m5 c5) := ⟨block_cell FW.out 0, block_cell FW.out 1, block_cell MW.out 0, block_cell MW.out 1, block_cell NW.out 0, block_cell NW.out 1⟩
                have lf0 := lt_of_block FW.out
                have lc0 := lt_of_block MW.out
                have ld0 := lt_of_block NW.out
                have HTCf := HTCW
                have HTDf := HTDW
                go_cut [19] from 94 (fun s19 wx => ∃ go x14 B14 m14 c14, s19 = .pointer (some ⟨go, 0, none⟩) ∧ Hid (wx.heap[go]? = some (.cells #[.string x14, .slice B14 m14 c14] 59 (0, 0))) ∧ Hid (TAt wx (fun k => P k ∧ k ≠ w.heap.size + 1) res.toTr (.agg #[.string x14, .slice B14 m14 c14])) ∧ Hid (Below w.heap.size w wx) ∧ Hid (wx.heap[w.heap.size + 1]? = some (.cells #[.string (St []), .slice none 0 0] 59 (0, 0))))
                case first =>
                  rename_i a5 a4 k1 a3 k0 a2 j kk a1 a0
                  clear a5 a4 a3 a2 HLA hd HOUTD
                  refine wp_region_noPanic ?_
                  refine wp_region_held_drew (S := (fun w' => w'.cell? ⟨gf, 0, none⟩ = some (.string xf) ∧ w'.cell? ⟨gf, 1, none⟩ = some (.slice none 0 0) ∧ w'.cell? ⟨gc, 0, none⟩ = some (.string x4) ∧ w'.cell? ⟨gc, 1, none⟩ = some (.slice B4 m4 c4') ∧ w'.cell? ⟨gd, 0, none⟩ = some (.string x5) ∧ w'.cell? ⟨gd, 1, none⟩ = some (.slice B5 m5 c5))) (by kernel_rfl) (by exact sW) (fun hHeld => ?_)
                  refine wpAnyH_take (i := 0) (v := ?_) rfl (by kernel_rfl) (by kernel_rfl) (by kernel_rfl) (fun _ _ _ h => h) (Or.inl ⟨by rfl, ?_⟩) (by assumption) ?_
                  rotate_left
                  · intro W hSW; (try dsimp only at hSW); go_simp; try with_reducible rfl
                  try simp only [Act.put, List.setIfInBounds_toArray, List.set_cons_zero, List.set_cons_succ, List.getElem_toArray, List.getElem_cons_zero, List.getElem_cons_succ]
                  refine wpAnyH_take (i := 1) (v := ?_) rfl (by kernel_rfl) (by kernel_rfl) (by kernel_rfl) (fun _ _ _ h => h) (Or.inl ⟨by rfl, ?_⟩) (by assumption) ?_
                  rotate_left
                  · intro W hSW; (try dsimp only at hSW); go_simp; try with_reducible rfl
                  try simp only [Act.put, List.setIfInBounds_toArray, List.set_cons_zero, List.set_cons_succ, List.getElem_toArray, List.getElem_cons_zero, List.getElem_cons_succ]
                  refine wpAnyH_take (i := 2) (v := ?_) rfl (by kernel_rfl) (by kernel_rfl) (by kernel_rfl) (fun _ _ _ h => h) (Or.inl ⟨by rfl, ?_⟩) (by assumption) ?_
                  rotate_left
                  · intro W hSW; (try dsimp only at hSW); go_simp; try with_reducible rfl
                  try simp only [Act.put, List.setIfInBounds_toArray, List.set_cons_zero, List.set_cons_succ, List.getElem_toArray, List.getElem_cons_zero, List.getElem_cons_succ]
                  refine wpAnyH_take (i := 3) (v := ?_) rfl (by kernel_rfl) (by kernel_rfl) (by kernel_rfl) (fun _ _ _ h => h) (Or.inl ⟨by rfl, ?_⟩) (by assumption) ?_
                  rotate_left
                  · intro W hSW; (try dsimp only at hSW); go_simp; try with_reducible rfl
                  try simp only [Act.put, List.setIfInBounds_toArray, List.set_cons_zero, List.set_cons_succ, List.getElem_toArray, List.getElem_cons_zero, List.getElem_cons_succ]
                  refine wpAnyH_ready (rs := [4, 10]) (by kernel_rfl) (by simp) ?_
                  refine AllReadyH.cons rfl (fun K hK => ?_) (AllReadyH.cons rfl (fun K hK => ?_) AllReadyH.nil)
                  · go_simp
                    refine hK.out _ _ (by exact ⟨cell_up (up_alloc (Below.refl _ _) (.cells #[.string x5, .slice B5 m5 c5, .string xf, .slice none 0 0] 59)) sW.1, cell_up (up_alloc (Below.refl _ _) (.cells #[.string x5, .slice B5 m5 c5, .string xf, .slice none 0 0] 59)) sW.2.1, cell_up (up_alloc (Below.refl _ _) (.cells #[.string x5, .slice B5 m5 c5, .string xf, .slice none 0 0] 59)) sW.2.2.1, cell_up (up_alloc (Below.refl _ _) (.cells #[.string x5, .slice B5 m5 c5, .string xf, .slice none 0 0] 59)) sW.2.2.2.1, cell_up (up_alloc (Below.refl _ _) (.cells #[.string x5, .slice B5 m5 c5, .string xf, .slice none 0 0] 59)) sW.2.2.2.2.1, cell_up (up_alloc (Below.refl _ _) (.cells #[.string x5, .slice B5 m5 c5, .string xf, .slice none 0 0] 59)) sW.2.2.2.2.2⟩) (fun hHeld => ?_)
                    clear hK
                    try simp only [Act.put, List.setIfInBounds_toArray, List.set_cons_zero, List.set_cons_succ, List.getElem_toArray, List.getElem_cons_zero, List.getElem_cons_succ]
                    refine wpAnyH_ready (rs := [5, 10]) (by kernel_rfl) (by simp) ?_
                    refine AllReadyH.cons rfl (fun K hK => ?_) (AllReadyH.cons rfl (fun K hK => ?_) AllReadyH.nil)
                    · go_simp
                      go_at_call 71
                      refine (HL1.out (fun k => P k ∧ k ≠ w.heap.size + 1) _ _ x5 xf B5 none m5 c5 0 0 (fun k hk => HPP.out _ (by simp <;> omega) k hk) (by first | exact block_new _ _ | exact old2 _ _ _ | exact new2 _ _ _) (HTDf.out.up (by repeat (first | exact Below.refl _ _ | refine up_drew ?_ | refine up_alloc ?_ _))) (HTFW.out _ _)).mono ?_
                      rintro e w12 ⟨⟨x12, B12, m12, c12, rfl, ht12⟩, hb⟩
                      have hb12 : Below wf.heap.size wf w12 := up_trans (by repeat (first | exact Below.refl _ _ | refine up_drew ?_ | refine up_alloc ?_ _)) hb
                      have HW12 : Hid (Below wf.heap.size wf w12) := up_trans (Below.refl _ _) hb12
                      have HT12 := Lib.hid ht12
                      have hx12 := hb.size
                      simp at hx12
                      have hz12 := HW12.out.size
                      have hy12 := hb12.size
                      clear ht12 hb
                      refine hK.out _ _ (by exact ⟨cell_up HW12.out sW.1, cell_up HW12.out sW.2.1, cell_up HW12.out sW.2.2.1, cell_up HW12.out sW.2.2.2.1, cell_up HW12.out sW.2.2.2.2.1, cell_up HW12.out sW.2.2.2.2.2⟩) (fun hHeld => ?_)
                      clear hK
                      try simp only [Act.put, List.setIfInBounds_toArray, List.set_cons_zero, List.set_cons_succ, List.getElem_toArray, List.getElem_cons_zero, List.getElem_cons_succ]
                      refine wpAnyH_ready (rs := [6, 10]) (by kernel_rfl) (by simp) ?_
                      refine AllReadyH.cons rfl (fun K hK => ?_) (AllReadyH.cons rfl (fun K hK => ?_) AllReadyH.nil)
                      · go_simp
                        refine hK.out _ _ (by exact ⟨cell_up (up_alloc HW12.out (.cells #[.string x4, .slice B4 m4 c4', .string x12, .slice B12 m12 c12] 59)) sW.1, cell_up (up_alloc HW12.out (.cells #[.string x4, .slice B4 m4 c4', .string x12, .slice B12 m12 c12] 59)) sW.2.1, cell_up (up_alloc HW12.out (.cells #[.string x4, .slice B4 m4 c4', .string x12, .slice B12 m12 c12] 59)) sW.2.2.1, cell_up (up_alloc HW12.out (.cells #[.string x4, .slice B4 m4 c4', .string x12, .slice B12 m12 c12] 59)) sW.2.2.2.1, cell_up (up_alloc HW12.out (.cells #[.string x4, .slice B4 m4 c4', .string x12, .slice B12 m12 c12] 59)) sW.2.2.2.2.1, cell_up (up_alloc HW12.out (.cells #[.string x4, .slice B4 m4 c4', .string x12, .slice B12 m12 c12] 59)) sW.2.2.2.2.2⟩) (fun hHeld => ?_)
                        clear hK
                        try simp only [Act.put, List.setIfInBounds_toArray, List.set_cons_zero, List.set_cons_succ, List.getElem_toArray, List.getElem_cons_zero, List.getElem_cons_succ]
                        refine wpAnyH_ready (rs := [7, 10]) (by kernel_rfl) (by simp) ?_
                        refine AllReadyH.cons rfl (fun K hK => ?_) (AllReadyH.cons rfl (fun K hK => ?_) AllReadyH.nil)
                        · go_simp
                          go_at_call 71
                          refine (HL2.out (fun k => P k ∧ k ≠ w.heap.size + 1) _ _ x4 x12 B4 B12 m4 c4' m12 c12 (fun k hk => HPP.out _ (by simp <;> omega) k hk) (by first | exact block_new _ _ | exact old2 _ _ _ | exact new2 _ _ _) (HTCf.out.up (up_trans HW12.out (by repeat (first | exact Below.refl _ _ | refine up_drew ?_ | refine up_alloc ?_ _)))) (HT12.out.up (by repeat (first | exact Below.refl _ _ | refine up_drew ?_ | refine up_alloc ?_ _)))).mono ?_
                          rintro e w13 ⟨⟨x13, B13, m13, c13, rfl, ht13⟩, hb⟩
                          have hb13 : Below w12.heap.size w12 w13 := up_trans (by repeat (first | exact Below.refl _ _ | refine up_drew ?_ | refine up_alloc ?_ _)) hb
                          have HW13 : Hid (Below wf.heap.size wf w13) := up_trans HW12.out hb13
                          have HT13 := Lib.hid ht13
                          have hx13 := hb.size
                          simp at hx13
                          have hz13 := HW13.out.size
                          have hy13 := hb13.size
                          clear ht13 hb
                          refine hK.out _ _ (by exact ⟨cell_up HW13.out sW.1, cell_up HW13.out sW.2.1, cell_up HW13.out sW.2.2.1, cell_up HW13.out sW.2.2.2.1, cell_up HW13.out sW.2.2.2.2.1, cell_up HW13.out sW.2.2.2.2.2⟩) (fun hHeld => ?_)
                          clear hK
                          try simp only [Act.put, List.setIfInBounds_toArray, List.set_cons_zero, List.set_cons_succ, List.getElem_toArray, List.getElem_cons_zero, List.getElem_cons_succ]
                          refine wpAnyH_ready (rs := [8, 10]) (by kernel_rfl) (by simp) ?_
                          refine AllReadyH.cons rfl (fun K hK => ?_) (AllReadyH.cons rfl (fun K hK => ?_) AllReadyH.nil)
                          · go_simp
                            refine hK.out _ _ (by exact ⟨cell_up (up_alloc HW13.out (.cells #[.string xf, .slice none 0 0, .string x13, .slice B13 m13 c13] 59)) sW.1, cell_up (up_alloc HW13.out (.cells #[.string xf, .slice none 0 0, .string x13, .slice B13 m13 c13] 59)) sW.2.1, cell_up (up_alloc HW13.out (.cells #[.string xf, .slice none 0 0, .string x13, .slice B13 m13 c13] 59)) sW.2.2.1, cell_up (up_alloc HW13.out (.cells #[.string xf, .slice none 0 0, .string x13, .slice B13 m13 c13] 59)) sW.2.2.2.1, cell_up (up_alloc HW13.out (.cells #[.string xf, .slice none 0 0, .string x13, .slice B13 m13 c13] 59)) sW.2.2.2.2.1, cell_up (up_alloc HW13.out (.cells #[.string xf, .slice none 0 0, .string x13, .slice B13 m13 c13] 59)) sW.2.2.2.2.2⟩) (fun hHeld => ?_)
                            clear hK
                            try simp only [Act.put, List.setIfInBounds_toArray, List.set_cons_zero, List.set_cons_succ, List.getElem_toArray, List.getElem_cons_zero, List.getElem_cons_succ]
                            refine wpAnyH_ready (rs := [9, 10]) (by kernel_rfl) (by simp) ?_
                            refine AllReadyH.cons rfl (fun K hK => ?_) (AllReadyH.cons rfl (fun K hK => ?_) AllReadyH.nil)
                            · go_simp
                              go_at_call 71
                              refine (HL3.out (fun k => P k ∧ k ≠ w.heap.size + 1) _ _ xf x13 none B13 0 0 m13 c13 (fun k hk => HPP.out _ (by simp <;> omega) k hk) (by first | exact block_new _ _ | exact old2 _ _ _ | exact new2 _ _ _) (HTFW.out _ _) (HT13.out.up (by repeat (first | exact Below.refl _ _ | refine up_drew ?_ | refine up_alloc ?_ _)))).mono ?_
                              rintro e w14 ⟨⟨x14, B14, m14, c14, rfl, ht14⟩, hb⟩
                              have hb14 : Below w13.heap.size w13 w14 := up_trans (by repeat (first | exact Below.refl _ _ | refine up_drew ?_ | refine up_alloc ?_ _)) hb
                              have HW14 : Hid (Below wf.heap.size wf w14) := up_trans HW13.out hb14
                              have HT14 := Lib.hid ht14
                              have hx14 := hb.size
                              simp at hx14
                              have hz14 := HW14.out.size
                              have hy14 := hb14.size
                              clear ht14 hb
                              refine hK.out _ _ (by exact ⟨cell_up HW14.out sW.1, cell_up HW14.out sW.2.1, cell_up HW14.out sW.2.2.1, cell_up HW14.out sW.2.2.2.1, cell_up HW14.out sW.2.2.2.2.1, cell_up HW14.out sW.2.2.2.2.2⟩) (fun hHeld => ?_)
                              clear hK
                              try simp only [Act.put, List.setIfInBounds_toArray, List.set_cons_zero, List.set_cons_succ, List.getElem_toArray, List.getElem_cons_zero, List.getElem_cons_succ]
                              refine wpAnyH_ready (rs := [10]) (by kernel_rfl) (by simp) ?_
                              refine AllReadyH.cons rfl (fun K hK => ?_) AllReadyH.nil
                              · go_simp
                                refine hK.out _ _ (by exact ⟨cell_up (up_alloc HW14.out (.cells #[.string ⟨#[]⟩, .slice none 0 0] 59)) sW.1, cell_up (up_alloc HW14.out (.cells #[.string ⟨#[]⟩, .slice none 0 0] 59)) sW.2.1, cell_up (up_alloc HW14.out (.cells #[.string ⟨#[]⟩, .slice none 0 0] 59)) sW.2.2.1, cell_up (up_alloc HW14.out (.cells #[.string ⟨#[]⟩, .slice none 0 0] 59)) sW.2.2.2.1, cell_up (up_alloc HW14.out (.cells #[.string ⟨#[]⟩, .slice none 0 0] 59)) sW.2.2.2.2.1, cell_up (up_alloc HW14.out (.cells #[.string ⟨#[]⟩, .slice none 0 0] 59)) sW.2.2.2.2.2⟩) (fun hHeld => ?_)
                                clear hK
                                try simp only [Act.put, List.setIfInBounds_toArray, List.set_cons_zero, List.set_cons_succ, List.getElem_toArray, List.getElem_cons_zero, List.getElem_cons_succ]
                                have HZ : Hid ((w14.alloc (.cells #[.string ⟨#[]⟩, .slice none 0 0] 59)).heap[w14.heap.size]? = some (.cells #[.string ⟨#[]⟩, .slice none 0 0] 59 (0, 0))) := by first | exact block_new _ _ | exact new2 _ _ _
                                have HT14 : Hid (TAt w14 (fun k => (P k ∧ k ≠ w.heap.size + 1) ∧ k ≠ w14.heap.size) _ _) := HT14.out.move fun k hk ho => ⟨⟨ho, by omega⟩, rfl⟩
                                refine wpAnyH_ready (rs := [11]) (by kernel_rfl) (by simp) ?_
                                refine AllReadyH.cons rfl (fun K hK => ?_) AllReadyH.nil
                                · go_simp
                                  refine hK.out _ _ (by exact ⟨cell_up (up_alloc HW14.out (.cells #[.string x14, .slice B14 m14 c14] 59)) sW.1, cell_up (up_alloc HW14.out (.cells #[.string x14, .slice B14 m14 c14] 59)) sW.2.1, cell_up (up_alloc HW14.out (.cells #[.string x14, .slice B14 m14 c14] 59)) sW.2.2.1, cell_up (up_alloc HW14.out (.cells #[.string x14, .slice B14 m14 c14] 59)) sW.2.2.2.1, cell_up (up_alloc HW14.out (.cells #[.string x14, .slice B14 m14 c14] 59)) sW.2.2.2.2.1, cell_up (up_alloc HW14.out (.cells #[.string x14, .slice B14 m14 c14] 59)) sW.2.2.2.2.2⟩) (fun hHeld => ?_)
                                  clear hK
                                  try simp only [Act.put, List.setIfInBounds_toArray, List.set_cons_zero, List.set_cons_succ, List.getElem_toArray, List.getElem_cons_zero, List.getElem_cons_succ]
                                  refine wpAnyH_done (by kernel_rfl) ?_ _
                                  refine NoPanic.normal ?_
                                  go_wp2_with fail
                                  go_meet
                                  exact ⟨w14.heap.size, x14, B14, m14, c14, rfl, block_new _ _, (HT14.out.up (up1 w14 _)).move fun k hk ho => ⟨ho.1, rfl⟩, up_alloc (up_trans HBW.out HW14.out) _, block_alloc (block_up HW14.out RW.out) _⟩
                            · go_simp
                              refine hK.out _ _ (by exact ⟨cell_up (up_alloc (up_alloc HW13.out (.cells #[.string xf, .slice none 0 0, .string x13, .slice B13 m13 c13] 59)) (.cells #[.string ⟨#[]⟩, .slice none 0 0] 59)) sW.1, cell_up (up_alloc (up_alloc HW13.out (.cells #[.string xf, .slice none 0 0, .string x13, .slice B13 m13 c13] 59)) (.cells #[.string ⟨#[]⟩, .slice none 0 0] 59)) sW.2.1, cell_up (up_alloc (up_alloc HW13.out (.cells #[.string xf, .slice none 0 0, .string x13, .slice B13 m13 c13] 59)) (.cells #[.string ⟨#[]⟩, .slice none 0 0] 59)) sW.2.2.1, cell_up (up_alloc (up_alloc HW13.out (.cells #[.string xf, .slice none 0 0, .string x13, .slice B13 m13 c13] 59)) (.cells #[.string ⟨#[]⟩, .slice none 0 0] 59)) sW.2.2.2.1, cell_up (up_alloc (up_alloc HW13.out (.cells #[.string xf, .slice none 0 0, .string x13, .slice B13 m13 c13] 59)) (.cells #[.string ⟨#[]⟩, .slice none 0 0] 59)) sW.2.2.2.2.1, cell_up (up_alloc (up_alloc HW13.out (.cells #[.string xf, .slice none 0 0, .string x13, .slice B13 m13 c13] 59)) (.cells #[.string ⟨#[]⟩, .slice none 0 0] 59)) sW.2.2.2.2.2⟩) (fun hHeld => ?_)
                              clear hK
                              try simp only [Act.put, List.setIfInBounds_toArray, List.set_cons_zero, List.set_cons_succ, List.getElem_toArray, List.getElem_cons_zero, List.getElem_cons_succ]
                              have HZ : Hid (((w13.alloc (.cells #[.string xf, .slice none 0 0, .string x13, .slice B13 m13 c13] 59)).alloc (.cells #[.string ⟨#[]⟩, .slice none 0 0] 59)).heap[w13.heap.size + 1]? = some (.cells #[.string ⟨#[]⟩, .slice none 0 0] 59 (0, 0))) := by first | exact block_new _ _ | exact new2 _ _ _
                              have HT13 : Hid (TAt w13 (fun k => (P k ∧ k ≠ w.heap.size + 1) ∧ k ≠ w13.heap.size + 1) _ _) := HT13.out.move fun k hk ho => ⟨⟨ho, by omega⟩, rfl⟩
                              refine wpAnyH_ready (rs := [9]) (by kernel_rfl) (by simp) ?_
                              refine AllReadyH.cons rfl (fun K hK => ?_) AllReadyH.nil
                              · go_simp
                                go_at_call 71
                                refine (HL3.out (fun k => (P k ∧ k ≠ w.heap.size + 1) ∧ k ≠ w13.heap.size + 1) _ _ xf x13 none B13 0 0 m13 c13 (fun k hk => ⟨HPP.out _ (by simp <;> omega) k hk, by (have hk2 := hk); simp at hk2; omega⟩) (by first | exact block_new _ _ | exact old2 _ _ _ | exact new2 _ _ _) (HTFW.out _ _) (HT13.out.up (by repeat (first | exact Below.refl _ _ | refine up_drew ?_ | refine up_alloc ?_ _)))).mono ?_
                                rintro e w14 ⟨⟨x14, B14, m14, c14, rfl, ht14⟩, hb⟩
                                have hb14 : Below w13.heap.size w13 w14 := up_trans (by repeat (first | exact Below.refl _ _ | refine up_drew ?_ | refine up_alloc ?_ _)) hb
                                have HW14 : Hid (Below wf.heap.size wf w14) := up_trans HW13.out hb14
                                have HT14 := Lib.hid ht14
                                have hx14 := hb.size
                                simp at hx14
                                have hz14 := HW14.out.size
                                have hy14 := hb14.size
                                have HZ := Lib.hid (block_up hb HZ.out)
                                clear ht14 hb
                                refine hK.out _ _ (by exact ⟨cell_up HW14.out sW.1, cell_up HW14.out sW.2.1, cell_up HW14.out sW.2.2.1, cell_up HW14.out sW.2.2.2.1, cell_up HW14.out sW.2.2.2.2.1, cell_up HW14.out sW.2.2.2.2.2⟩) (fun hHeld => ?_)
                                clear hK
                                try simp only [Act.put, List.setIfInBounds_toArray, List.set_cons_zero, List.set_cons_succ, List.getElem_toArray, List.getElem_cons_zero, List.getElem_cons_succ]
                                refine wpAnyH_ready (rs := [11]) (by kernel_rfl) (by simp) ?_
                                refine AllReadyH.cons rfl (fun K hK => ?_) AllReadyH.nil
                                · have z0 := block_cell HZ.out 0
                                  have z1 := block_cell HZ.out 1
                                  have zf0 := block_free HZ.out 0
                                  have zf1 := block_free HZ.out 1
                                  have lz := lt_of_block HZ.out
                                  go_simp
                                  refine hK.out _ _ (by exact ⟨cell_set2 (cell_up HW14.out sW.1) (by omega), cell_set2 (cell_up HW14.out sW.2.1) (by omega), cell_set2 (cell_up HW14.out sW.2.2.1) (by omega), cell_set2 (cell_up HW14.out sW.2.2.2.1) (by omega), cell_set2 (cell_up HW14.out sW.2.2.2.2.1) (by omega), cell_set2 (cell_up HW14.out sW.2.2.2.2.2) (by omega)⟩) (fun hHeld => ?_)
                                  clear hK
                                  try simp only [Act.put, List.setIfInBounds_toArray, List.set_cons_zero, List.set_cons_succ, List.getElem_toArray, List.getElem_cons_zero, List.getElem_cons_succ]
                                  refine wpAnyH_done (by kernel_rfl) ?_ _
                                  refine NoPanic.normal ?_
                                  go_wp2_with fail
                                  go_meet
                                  exact ⟨w13.heap.size + 1, x14, B14, m14, c14, rfl, set2_new HZ.out _ _, (HT14.out.up (by repeat (first | exact Below.refl _ _ | refine up_drew ?_ | refine up_alloc ?_ _))).move fun k hk ho => ⟨ho.1, set2_block _ _ _ ho.2⟩, set0 (set0 (up_trans HBW.out (up_trans HW14.out (by repeat (first | exact Below.refl _ _ | refine up_drew ?_ | refine up_alloc ?_ _)))) (by omega)) (by omega), (set2_block _ _ _ (by omega)).trans (block_up (up_trans HW14.out (by repeat (first | exact Below.refl _ _ | refine up_drew ?_ | refine up_alloc ?_ _))) RW.out)⟩
                          · go_simp
                            refine hK.out _ _ (by exact ⟨cell_up (up_alloc HW13.out (.cells #[.string ⟨#[]⟩, .slice none 0 0] 59)) sW.1, cell_up (up_alloc HW13.out (.cells #[.string ⟨#[]⟩, .slice none 0 0] 59)) sW.2.1, cell_up (up_alloc HW13.out (.cells #[.string ⟨#[]⟩, .slice none 0 0] 59)) sW.2.2.1, cell_up (up_alloc HW13.out (.cells #[.string ⟨#[]⟩, .slice none 0 0] 59)) sW.2.2.2.1, cell_up (up_alloc HW13.out (.cells #[.string ⟨#[]⟩, .slice none 0 0] 59)) sW.2.2.2.2.1, cell_up (up_alloc HW13.out (.cells #[.string ⟨#[]⟩, .slice none 0 0] 59)) sW.2.2.2.2.2⟩) (fun hHeld => ?_)
                            clear hK
                            try simp only [Act.put, List.setIfInBounds_toArray, List.set_cons_zero, List.set_cons_succ, List.getElem_toArray, List.getElem_cons_zero, List.getElem_cons_succ]
                            have HZ : Hid ((w13.alloc (.cells #[.string ⟨#[]⟩, .slice none 0 0] 59)).heap[w13.heap.size]? = some (.cells #[.string ⟨#[]⟩, .slice none 0 0] 59 (0, 0))) := by first | exact block_new _ _ | exact new2 _ _ _
                            have HT13 : Hid (TAt w13 (fun k => (P k ∧ k ≠ w.heap.size + 1) ∧ k ≠ w13.heap.size) _ _) := HT13.out.move fun k hk ho => ⟨⟨ho, by omega⟩, rfl⟩
                            refine wpAnyH_ready (rs := [8]) (by kernel_rfl) (by simp) ?_
                            refine AllReadyH.cons rfl (fun K hK => ?_) AllReadyH.nil
                            · go_simp
                              refine hK.out _ _ (by exact ⟨cell_up (up_alloc (up_alloc HW13.out (.cells #[.string ⟨#[]⟩, .slice none 0 0] 59)) (.cells #[.string xf, .slice none 0 0, .string x13, .slice B13 m13 c13] 59)) sW.1, cell_up (up_alloc (up_alloc HW13.out (.cells #[.string ⟨#[]⟩, .slice none 0 0] 59)) (.cells #[.string xf, .slice none 0 0, .string x13, .slice B13 m13 c13] 59)) sW.2.1, cell_up (up_alloc (up_alloc HW13.out (.cells #[.string ⟨#[]⟩, .slice none 0 0] 59)) (.cells #[.string xf, .slice none 0 0, .string x13, .slice B13 m13 c13] 59)) sW.2.2.1, cell_up (up_alloc (up_alloc HW13.out (.cells #[.string ⟨#[]⟩, .slice none 0 0] 59)) (.cells #[.string xf, .slice none 0 0, .string x13, .slice B13 m13 c13] 59)) sW.2.2.2.1, cell_up (up_alloc (up_alloc HW13.out (.cells #[.string ⟨#[]⟩, .slice none 0 0] 59)) (.cells #[.string xf, .slice none 0 0, .string x13, .slice B13 m13 c13] 59)) sW.2.2.2.2.1, cell_up (up_alloc (up_alloc HW13.out (.cells #[.string ⟨#[]⟩, .slice none 0 0] 59)) (.cells #[.string xf, .slice none 0 0, .string x13, .slice B13 m13 c13] 59)) sW.2.2.2.2.2⟩) (fun hHeld => ?_)
                              clear hK
                              try simp only [Act.put, List.setIfInBounds_toArray, List.set_cons_zero, List.set_cons_succ, List.getElem_toArray, List.getElem_cons_zero, List.getElem_cons_succ]
                              have HZ := Lib.hid (block_alloc HZ.out (.cells #[.string xf, .slice none 0 0, .string x13, .slice B13 m13 c13] 59))
                              refine wpAnyH_ready (rs := [9]) (by kernel_rfl) (by simp) ?_
                              refine AllReadyH.cons rfl (fun K hK => ?_) AllReadyH.nil
                              · go_simp
                                go_at_call 71
                                refine (HL3.out (fun k => (P k ∧ k ≠ w.heap.size + 1) ∧ k ≠ w13.heap.size) _ _ xf x13 none B13 0 0 m13 c13 (fun k hk => ⟨HPP.out _ (by simp <;> omega) k hk, by (have hk2 := hk); simp at hk2; omega⟩) (by first | exact block_new _ _ | exact old2 _ _ _ | exact new2 _ _ _) (HTFW.out _ _) (HT13.out.up (by repeat (first | exact Below.refl _ _ | refine up_drew ?_ | refine up_alloc ?_ _)))).mono ?_
                                rintro e w14 ⟨⟨x14, B14, m14, c14, rfl, ht14⟩, hb⟩
                                have hb14 : Below w13.heap.size w13 w14 := up_trans (by repeat (first | exact Below.refl _ _ | refine up_drew ?_ | refine up_alloc ?_ _)) hb
                                have HW14 : Hid (Below wf.heap.size wf w14) := up_trans HW13.out hb14
                                have HT14 := Lib.hid ht14
                                have hx14 := hb.size
                                simp at hx14
                                have hz14 := HW14.out.size
                                have hy14 := hb14.size
                                have HZ := Lib.hid (block_up hb HZ.out)
                                clear ht14 hb
                                refine hK.out _ _ (by exact ⟨cell_up HW14.out sW.1, cell_up HW14.out sW.2.1, cell_up HW14.out sW.2.2.1, cell_up HW14.out sW.2.2.2.1, cell_up HW14.out sW.2.2.2.2.1, cell_up HW14.out sW.2.2.2.2.2⟩) (fun hHeld => ?_)
                                clear hK
                                try simp only [Act.put, List.setIfInBounds_toArray, List.set_cons_zero, List.set_cons_succ, List.getElem_toArray, List.getElem_cons_zero, List.getElem_cons_succ]
                                refine wpAnyH_ready (rs := [11]) (by kernel_rfl) (by simp) ?_
                                refine AllReadyH.cons rfl (fun K hK => ?_) AllReadyH.nil
                                · have z0 := block_cell HZ.out 0
                                  have z1 := block_cell HZ.out 1
                                  have zf0 := block_free HZ.out 0
                                  have zf1 := block_free HZ.out 1
                                  have lz := lt_of_block HZ.out
                                  go_simp
                                  refine hK.out _ _ (by exact ⟨cell_set2 (cell_up HW14.out sW.1) (by omega), cell_set2 (cell_up HW14.out sW.2.1) (by omega), cell_set2 (cell_up HW14.out sW.2.2.1) (by omega), cell_set2 (cell_up HW14.out sW.2.2.2.1) (by omega), cell_set2 (cell_up HW14.out sW.2.2.2.2.1) (by omega), cell_set2 (cell_up HW14.out sW.2.2.2.2.2) (by omega)⟩) (fun hHeld => ?_)
                                  clear hK
                                  try simp only [Act.put, List.setIfInBounds_toArray, List.set_cons_zero, List.set_cons_succ, List.getElem_toArray, List.getElem_cons_zero, List.getElem_cons_succ]
                                  refine wpAnyH_done (by kernel_rfl) ?_ _
                                  refine NoPanic.normal ?_
                                  go_wp2_with fail
                                  go_meet
                                  exact ⟨w13.heap.size, x14, B14, m14, c14, rfl, set2_new HZ.out _ _, (HT14.out.up (by repeat (first | exact Below.refl _ _ | refine up_drew ?_ | refine up_alloc ?_ _))).move fun k hk ho => ⟨ho.1, set2_block _ _ _ ho.2⟩, set0 (set0 (up_trans HBW.out (up_trans HW14.out (by repeat (first | exact Below.refl _ _ | refine up_drew ?_ | refine up_alloc ?_ _)))) (by omega)) (by omega), (set2_block _ _ _ (by omega)).trans (block_up (up_trans HW14.out (by repeat (first | exact Below.refl _ _ | refine up_drew ?_ | refine up_alloc ?_ _))) RW.out)⟩
                        · go_simp
                          refine hK.out _ _ (by exact ⟨cell_up (up_alloc (up_alloc HW12.out (.cells #[.string x4, .slice B4 m4 c4', .string x12, .slice B12 m12 c12] 59)) (.cells #[.string ⟨#[]⟩, .slice none 0 0] 59)) sW.1, cell_up (up_alloc (up_alloc HW12.out (.cells #[.string x4, .slice B4 m4 c4', .string x12, .slice B12 m12 c12] 59)) (.cells #[.string ⟨#[]⟩, .slice none 0 0] 59)) sW.2.1, cell_up (up_alloc (up_alloc HW12.out (.cells #[.string x4, .slice B4 m4 c4', .string x12, .slice B12 m12 c12] 59)) (.cells #[.string ⟨#[]⟩, .slice none 0 0] 59)) sW.2.2.1, cell_up (up_alloc (up_alloc HW12.out (.cells #[.string x4, .slice B4 m4 c4', .string x12, .slice B12 m12 c12] 59)) (.cells #[.string ⟨#[]⟩, .slice none 0 0] 59)) sW.2.2.2.1, cell_up (up_alloc (up_alloc HW12.out (.cells #[.string x4, .slice B4 m4 c4', .string x12, .slice B12 m12 c12] 59)) (.cells #[.string ⟨#[]⟩, .slice none 0 0] 59)) sW.2.2.2.2.1, cell_up (up_alloc (up_alloc HW12.out (.cells #[.string x4, .slice B4 m4 c4', .string x12, .slice B12 m12 c12] 59)) (.cells #[.string ⟨#[]⟩, .slice none 0 0] 59)) sW.2.2.2.2.2⟩) (fun hHeld => ?_)
                          clear hK
                          try simp only [Act.put, List.setIfInBounds_toArray, List.set_cons_zero, List.set_cons_succ, List.getElem_toArray, List.getElem_cons_zero, List.getElem_cons_succ]
                          have HZ : Hid (((w12.alloc (.cells #[.string x4, .slice B4 m4 c4', .string x12, .slice B12 m12 c12] 59)).alloc (.cells #[.string ⟨#[]⟩, .slice none 0 0] 59)).heap[w12.heap.size + 1]? = some (.cells #[.string ⟨#[]⟩, .slice none 0 0] 59 (0, 0))) := by first | exact block_new _ _ | exact new2 _ _ _
                          have HT12 : Hid (TAt w12 (fun k => (P k ∧ k ≠ w.heap.size + 1) ∧ k ≠ w12.heap.size + 1) _ _) := HT12.out.move fun k hk ho => ⟨⟨ho, by omega⟩, rfl⟩
                          have HTCf : Hid (TAt wf (fun k => (P k ∧ k ≠ w.heap.size + 1) ∧ k ≠ w12.heap.size + 1) _ _) := HTCf.out.move fun k hk ho => ⟨⟨ho, by omega⟩, rfl⟩
                          refine wpAnyH_ready (rs := [7]) (by kernel_rfl) (by simp) ?_
                          refine AllReadyH.cons rfl (fun K hK => ?_) AllReadyH.nil
                          · go_simp
                            go_at_call 71
                            refine (HL2.out (fun k => (P k ∧ k ≠ w.heap.size + 1) ∧ k ≠ w12.heap.size + 1) _ _ x4 x12 B4 B12 m4 c4' m12 c12 (fun k hk => ⟨HPP.out _ (by simp <;> omega) k hk, by (have hk2 := hk); simp at hk2; omega⟩) (by first | exact block_new _ _ | exact old2 _ _ _ | exact new2 _ _ _) (HTCf.out.up (up_trans HW12.out (by repeat (first | exact Below.refl _ _ | refine up_drew ?_ | refine up_alloc ?_ _)))) (HT12.out.up (by repeat (first | exact Below.refl _ _ | refine up_drew ?_ | refine up_alloc ?_ _)))).mono ?_
                            rintro e w13 ⟨⟨x13, B13, m13, c13, rfl, ht13⟩, hb⟩
                            have hb13 : Below w12.heap.size w12 w13 := up_trans (by repeat (first | exact Below.refl _ _ | refine up_drew ?_ | refine up_alloc ?_ _)) hb
                            have HW13 : Hid (Below wf.heap.size wf w13) := up_trans HW12.out hb13
                            have HT13 := Lib.hid ht13
                            have hx13 := hb.size
                            simp at hx13
                            have hz13 := HW13.out.size
                            have hy13 := hb13.size
                            have HZ := Lib.hid (block_up hb HZ.out)
                            clear ht13 hb
                            refine hK.out _ _ (by exact ⟨cell_up HW13.out sW.1, cell_up HW13.out sW.2.1, cell_up HW13.out sW.2.2.1, cell_up HW13.out sW.2.2.2.1, cell_up HW13.out sW.2.2.2.2.1, cell_up HW13.out sW.2.2.2.2.2⟩) (fun hHeld => ?_)
                            clear hK
                            try simp only [Act.put, List.setIfInBounds_toArray, List.set_cons_zero, List.set_cons_succ, List.getElem_toArray, List.getElem_cons_zero, List.getElem_cons_succ]
                            refine wpAnyH_ready (rs := [8]) (by kernel_rfl) (by simp) ?_
                            refine AllReadyH.cons rfl (fun K hK => ?_) AllReadyH.nil
                            · go_simp
                              refine hK.out _ _ (by exact ⟨cell_up (up_alloc HW13.out (.cells #[.string xf, .slice none 0 0, .string x13, .slice B13 m13 c13] 59)) sW.1, cell_up (up_alloc HW13.out (.cells #[.string xf, .slice none 0 0, .string x13, .slice B13 m13 c13] 59)) sW.2.1, cell_up (up_alloc HW13.out (.cells #[.string xf, .slice none 0 0, .string x13, .slice B13 m13 c13] 59)) sW.2.2.1, cell_up (up_alloc HW13.out (.cells #[.string xf, .slice none 0 0, .string x13, .slice B13 m13 c13] 59)) sW.2.2.2.1, cell_up (up_alloc HW13.out (.cells #[.string xf, .slice none 0 0, .string x13, .slice B13 m13 c13] 59)) sW.2.2.2.2.1, cell_up (up_alloc HW13.out (.cells #[.string xf, .slice none 0 0, .string x13, .slice B13 m13 c13] 59)) sW.2.2.2.2.2⟩) (fun hHeld => ?_)
                              clear hK
                              try simp only [Act.put, List.setIfInBounds_toArray, List.set_cons_zero, List.set_cons_succ, List.getElem_toArray, List.getElem_cons_zero, List.getElem_cons_succ]
                              have HZ := Lib.hid (block_alloc HZ.out (.cells #[.string xf, .slice none 0 0, .string x13, .slice B13 m13 c13] 59))
                              refine wpAnyH_ready (rs := [9]) (by kernel_rfl) (by simp) ?_
                              refine AllReadyH.cons rfl (fun K hK => ?_) AllReadyH.nil
                              · go_simp
                                go_at_call 71
                                refine (HL3.out (fun k => (P k ∧ k ≠ w.heap.size + 1) ∧ k ≠ w12.heap.size + 1) _ _ xf x13 none B13 0 0 m13 c13 (fun k hk => ⟨HPP.out _ (by simp <;> omega) k hk, by (have hk2 := hk); simp at hk2; omega⟩) (by first | exact block_new _ _ | exact old2 _ _ _ | exact new2 _ _ _) (HTFW.out _ _) (HT13.out.up (by repeat (first | exact Below.refl _ _ | refine up_drew ?_ | refine up_alloc ?_ _)))).mono ?_
                                rintro e w14 ⟨⟨x14, B14, m14, c14, rfl, ht14⟩, hb⟩
                                have hb14 : Below w13.heap.size w13 w14 := up_trans (by repeat (first | exact Below.refl _ _ | refine up_drew ?_ | refine up_alloc ?_ _)) hb
                                have HW14 : Hid (Below wf.heap.size wf w14) := up_trans HW13.out hb14
                                have HT14 := Lib.hid ht14
                                have hx14 := hb.size
                                simp at hx14
                                have hz14 := HW14.out.size
                                have hy14 := hb14.size
                                have HZ := Lib.hid (block_up hb HZ.out)
                                clear ht14 hb
                                refine hK.out _ _ (by exact ⟨cell_up HW14.out sW.1, cell_up HW14.out sW.2.1, cell_up HW14.out sW.2.2.1, cell_up HW14.out sW.2.2.2.1, cell_up HW14.out sW.2.2.2.2.1, cell_up HW14.out sW.2.2.2.2.2⟩) (fun hHeld => ?_)
                                clear hK
                                try simp only [Act.put, List.setIfInBounds_toArray, List.set_cons_zero, List.set_cons_succ, List.getElem_toArray, List.getElem_cons_zero, List.getElem_cons_succ]
                                refine wpAnyH_ready (rs := [11]) (by kernel_rfl) (by simp) ?_
                                refine AllReadyH.cons rfl (fun K hK => ?_) AllReadyH.nil
                                · have z0 := block_cell HZ.out 0
                                  have z1 := block_cell HZ.out 1
                                  have zf0 := block_free HZ.out 0
                                  have zf1 := block_free HZ.out 1
                                  have lz := lt_of_block HZ.out
                                  go_simp
                                  refine hK.out _ _ (by exact ⟨cell_set2 (cell_up HW14.out sW.1) (by omega), cell_set2 (cell_up HW14.out sW.2.1) (by omega), cell_set2 (cell_up HW14.out sW.2.2.1) (by omega), cell_set2 (cell_up HW14.out sW.2.2.2.1) (by omega), cell_set2 (cell_up HW14.out sW.2.2.2.2.1) (by omega), cell_set2 (cell_up HW14.out sW.2.2.2.2.2) (by omega)⟩) (fun hHeld => ?_)
                                  clear hK
                                  try simp only [Act.put, List.setIfInBounds_toArray, List.set_cons_zero, List.set_cons_succ, List.getElem_toArray, List.getElem_cons_zero, List.getElem_cons_succ]
                                  refine wpAnyH_done (by kernel_rfl) ?_ _
                                  refine NoPanic.normal ?_
                                  go_wp2_with fail
                                  go_meet
                                  exact ⟨w12.heap.size + 1, x14, B14, m14, c14, rfl, set2_new HZ.out _ _, (HT14.out.up (by repeat (first | exact Below.refl _ _ | refine up_drew ?_ | refine up_alloc ?_ _))).move fun k hk ho => ⟨ho.1, set2_block _ _ _ ho.2⟩, set0 (set0 (up_trans HBW.out (up_trans HW14.out (by repeat (first | exact Below.refl _ _ | refine up_drew ?_ | refine up_alloc ?_ _)))) (by omega)) (by omega), (set2_block _ _ _ (by omega)).trans (block_up (up_trans HW14.out (by repeat (first | exact Below.refl _ _ | refine up_drew ?_ | refine up_alloc ?_ _))) RW.out)⟩
                      · go_simp
                        refine hK.out _ _ (by exact ⟨cell_up (up_alloc HW12.out (.cells #[.string ⟨#[]⟩, .slice none 0 0] 59)) sW.1, cell_up (up_alloc HW12.out (.cells #[.string ⟨#[]⟩, .slice none 0 0] 59)) sW.2.1, cell_up (up_alloc HW12.out (.cells #[.string ⟨#[]⟩, .slice none 0 0] 59)) sW.2.2.1, cell_up (up_alloc HW12.out (.cells #[.string ⟨#[]⟩, .slice none 0 0] 59)) sW.2.2.2.1, cell_up (up_alloc HW12.out (.cells #[.string ⟨#[]⟩, .slice none 0 0] 59)) sW.2.2.2.2.1, cell_up (up_alloc HW12.out (.cells #[.string ⟨#[]⟩, .slice none 0 0] 59)) sW.2.2.2.2.2⟩) (fun hHeld => ?_)
                        clear hK
                        try simp only [Act.put, List.setIfInBounds_toArray, List.set_cons_zero, List.set_cons_succ, List.getElem_toArray, List.getElem_cons_zero, List.getElem_cons_succ]
                        have HZ : Hid ((w12.alloc (.cells #[.string ⟨#[]⟩, .slice none 0 0] 59)).heap[w12.heap.size]? = some (.cells #[.string ⟨#[]⟩, .slice none 0 0] 59 (0, 0))) := by first | exact block_new _ _ | exact new2 _ _ _
                        have HT12 : Hid (TAt w12 (fun k => (P k ∧ k ≠ w.heap.size + 1) ∧ k ≠ w12.heap.size) _ _) := HT12.out.move fun k hk ho => ⟨⟨ho, by omega⟩, rfl⟩
                        have HTCf : Hid (TAt wf (fun k => (P k ∧ k ≠ w.heap.size + 1) ∧ k ≠ w12.heap.size) _ _) := HTCf.out.move fun k hk ho => ⟨⟨ho, by omega⟩, rfl⟩
                        refine wpAnyH_ready (rs := [6]) (by kernel_rfl) (by simp) ?_
                        refine AllReadyH.cons rfl (fun K hK => ?_) AllReadyH.nil
                        · go_simp
                          refine hK.out _ _ (by exact ⟨cell_up (up_alloc (up_alloc HW12.out (.cells #[.string ⟨#[]⟩, .slice none 0 0] 59)) (.cells #[.string x4, .slice B4 m4 c4', .string x12, .slice B12 m12 c12] 59)) sW.1, cell_up (up_alloc (up_alloc HW12.out (.cells #[.string ⟨#[]⟩, .slice none 0 0] 59)) (.cells #[.string x4, .slice B4 m4 c4', .string x12, .slice B12 m12 c12] 59)) sW.2.1, cell_up (up_alloc (up_alloc HW12.out (.cells #[.string ⟨#[]⟩, .slice none 0 0] 59)) (.cells #[.string x4, .slice B4 m4 c4', .string x12, .slice B12 m12 c12] 59)) sW.2.2.1, cell_up (up_alloc (up_alloc HW12.out (.cells #[.string ⟨#[]⟩, .slice none 0 0] 59)) (.cells #[.string x4, .slice B4 m4 c4', .string x12, .slice B12 m12 c12] 59)) sW.2.2.2.1, cell_up (up_alloc (up_alloc HW12.out (.cells #[.string ⟨#[]⟩, .slice none 0 0] 59)) (.cells #[.string x4, .slice B4 m4 c4', .string x12, .slice B12 m12 c12] 59)) sW.2.2.2.2.1, cell_up (up_alloc (up_alloc HW12.out (.cells #[.string ⟨#[]⟩, .slice none 0 0] 59)) (.cells #[.string x4, .slice B4 m4 c4', .string x12, .slice B12 m12 c12] 59)) sW.2.2.2.2.2⟩) (fun hHeld => ?_)
                          clear hK
                          try simp only [Act.put, List.setIfInBounds_toArray, List.set_cons_zero, List.set_cons_succ, List.getElem_toArray, List.getElem_cons_zero, List.getElem_cons_succ]
                          have HZ := Lib.hid (block_alloc HZ.out (.cells #[.string x4, .slice B4 m4 c4', .string x12, .slice B12 m12 c12] 59))
                          refine wpAnyH_ready (rs := [7]) (by kernel_rfl) (by simp) ?_
                          refine AllReadyH.cons rfl (fun K hK => ?_) AllReadyH.nil
                          · go_simp
                            go_at_call 71
                            refine (HL2.out (fun k => (P k ∧ k ≠ w.heap.size + 1) ∧ k ≠ w12.heap.size) _ _ x4 x12 B4 B12 m4 c4' m12 c12 (fun k hk => ⟨HPP.out _ (by simp <;> omega) k hk, by (have hk2 := hk); simp at hk2; omega⟩) (by first | exact block_new _ _ | exact old2 _ _ _ | exact new2 _ _ _) (HTCf.out.up (up_trans HW12.out (by repeat (first | exact Below.refl _ _ | refine up_drew ?_ | refine up_alloc ?_ _)))) (HT12.out.up (by repeat (first | exact Below.refl _ _ | refine up_drew ?_ | refine up_alloc ?_ _)))).mono ?_
                            rintro e w13 ⟨⟨x13, B13, m13, c13, rfl, ht13⟩, hb⟩
                            have hb13 : Below w12.heap.size w12 w13 := up_trans (by repeat (first | exact Below.refl _ _ | refine up_drew ?_ | refine up_alloc ?_ _)) hb
                            have HW13 : Hid (Below wf.heap.size wf w13) := up_trans HW12.out hb13
                            have HT13 := Lib.hid ht13
                            have hx13 := hb.size
                            simp at hx13
                            have hz13 := HW13.out.size
                            have hy13 := hb13.size
                            have HZ := Lib.hid (block_up hb HZ.out)
                            clear ht13 hb
                            refine hK.out _ _ (by exact ⟨cell_up HW13.out sW.1, cell_up HW13.out sW.2.1, cell_up HW13.out sW.2.2.1, cell_up HW13.out sW.2.2.2.1, cell_up HW13.out sW.2.2.2.2.1, cell_up HW13.out sW.2.2.2.2.2⟩) (fun hHeld => ?_)
                            clear hK
                            try simp only [Act.put, List.setIfInBounds_toArray, List.set_cons_zero, List.set_cons_succ, List.getElem_toArray, List.getElem_cons_zero, List.getElem_cons_succ]
                            refine wpAnyH_ready (rs := [8]) (by kernel_rfl) (by simp) ?_
                            refine AllReadyH.cons rfl (fun K hK => ?_) AllReadyH.nil
                            · go_simp
                              refine hK.out _ _ (by exact ⟨cell_up (up_alloc HW13.out (.cells #[.string xf, .slice none 0 0, .string x13, .slice B13 m13 c13] 59)) sW.1, cell_up (up_alloc HW13.out (.cells #[.string xf, .slice none 0 0, .string x13, .slice B13 m13 c13] 59)) sW.2.1, cell_up (up_alloc HW13.out (.cells #[.string xf, .slice none 0 0, .string x13, .slice B13 m13 c13] 59)) sW.2.2.1, cell_up (up_alloc HW13.out (.cells #[.string xf, .slice none 0 0, .string x13, .slice B13 m13 c13] 59)) sW.2.2.2.1, cell_up (up_alloc HW13.out (.cells #[.string xf, .slice none 0 0, .string x13, .slice B13 m13 c13] 59)) sW.2.2.2.2.1, cell_up (up_alloc HW13.out (.cells #[.string xf, .slice none 0 0, .string x13, .slice B13 m13 c13] 59)) sW.2.2.2.2.2⟩) (fun hHeld => ?_)
                              clear hK
                              try simp only [Act.put, List.setIfInBounds_toArray, List.set_cons_zero, List.set_cons_succ, List.getElem_toArray, List.getElem_cons_zero, List.getElem_cons_succ]
                              have HZ := Lib.hid (block_alloc HZ.out (.cells #[.string xf, .slice none 0 0, .string x13, .slice B13 m13 c13] 59))
                              refine wpAnyH_ready (rs := [9]) (by kernel_rfl) (by simp) ?_
                              refine AllReadyH.cons rfl (fun K hK => ?_) AllReadyH.nil
                              · go_simp
                                go_at_call 71
                                refine (HL3.out (fun k => (P k ∧ k ≠ w.heap.size + 1) ∧ k ≠ w12.heap.size) _ _ xf x13 none B13 0 0 m13 c13 (fun k hk => ⟨HPP.out _ (by simp <;> omega) k hk, by (have hk2 := hk); simp at hk2; omega⟩) (by first | exact block_new _ _ | exact old2 _ _ _ | exact new2 _ _ _) (HTFW.out _ _) (HT13.out.up (by repeat (first | exact Below.refl _ _ | refine up_drew ?_ | refine up_alloc ?_ _)))).mono ?_
                                rintro e w14 ⟨⟨x14, B14, m14, c14, rfl, ht14⟩, hb⟩
                                have hb14 : Below w13.heap.size w13 w14 := up_trans (by repeat (first | exact Below.refl _ _ | refine up_drew ?_ | refine up_alloc ?_ _)) hb
                                have HW14 : Hid (Below wf.heap.size wf w14) := up_trans HW13.out hb14
                                have HT14 := Lib.hid ht14
                                have hx14 := hb.size
                                simp at hx14
                                have hz14 := HW14.out.size
                                have hy14 := hb14.size
                                have HZ := Lib.hid (block_up hb HZ.out)
                                clear ht14 hb
                                refine hK.out _ _ (by exact ⟨cell_up HW14.out sW.1, cell_up HW14.out sW.2.1, cell_up HW14.out sW.2.2.1, cell_up HW14.out sW.2.2.2.1, cell_up HW14.out sW.2.2.2.2.1, cell_up HW14.out sW.2.2.2.2.2⟩) (fun hHeld => ?_)
                                clear hK
                                try simp only [Act.put, List.setIfInBounds_toArray, List.set_cons_zero, List.set_cons_succ, List.getElem_toArray, List.getElem_cons_zero, List.getElem_cons_succ]
                                refine wpAnyH_ready (rs := [11]) (by kernel_rfl) (by simp) ?_
                                refine AllReadyH.cons rfl (fun K hK => ?_) AllReadyH.nil
                                · have z0 := block_cell HZ.out 0
                                  have z1 := block_cell HZ.out 1
                                  have zf0 := block_free HZ.out 0
                                  have zf1 := block_free HZ.out 1
                                  have lz := lt_of_block HZ.out
                                  go_simp
                                  refine hK.out _ _ (by exact ⟨cell_set2 (cell_up HW14.out sW.1) (by omega), cell_set2 (cell_up HW14.out sW.2.1) (by omega), cell_set2 (cell_up HW14.out sW.2.2.1) (by omega), cell_set2 (cell_up HW14.out sW.2.2.2.1) (by omega), cell_set2 (cell_up HW14.out sW.2.2.2.2.1) (by omega), cell_set2 (cell_up HW14.out sW.2.2.2.2.2) (by omega)⟩) (fun hHeld => ?_)
                                  clear hK
                                  try simp only [Act.put, List.setIfInBounds_toArray, List.set_cons_zero, List.set_cons_succ, List.getElem_toArray, List.getElem_cons_zero, List.getElem_cons_succ]
                                  refine wpAnyH_done (by kernel_rfl) ?_ _
                                  refine NoPanic.normal ?_
                                  go_wp2_with fail
                                  go_meet
                                  exact ⟨w12.heap.size, x14, B14, m14, c14, rfl, set2_new HZ.out _ _, (HT14.out.up (by repeat (first | exact Below.refl _ _ | refine up_drew ?_ | refine up_alloc ?_ _))).move fun k hk ho => ⟨ho.1, set2_block _ _ _ ho.2⟩, set0 (set0 (up_trans HBW.out (up_trans HW14.out (by repeat (first | exact Below.refl _ _ | refine up_drew ?_ | refine up_alloc ?_ _)))) (by omega)) (by omega), (set2_block _ _ _ (by omega)).trans (block_up (up_trans HW14.out (by repeat (first | exact Below.refl _ _ | refine up_drew ?_ | refine up_alloc ?_ _))) RW.out)⟩
                    · go_simp
                      refine hK.out _ _ (by exact ⟨cell_up (up_alloc (up_alloc (Below.refl _ _) (.cells #[.string x5, .slice B5 m5 c5, .string xf, .slice none 0 0] 59)) (.cells #[.string ⟨#[]⟩, .slice none 0 0] 59)) sW.1, cell_up (up_alloc (up_alloc (Below.refl _ _) (.cells #[.string x5, .slice B5 m5 c5, .string xf, .slice none 0 0] 59)) (.cells #[.string ⟨#[]⟩, .slice none 0 0] 59)) sW.2.1, cell_up (up_alloc (up_alloc (Below.refl _ _) (.cells #[.string x5, .slice B5 m5 c5, .string xf, .slice none 0 0] 59)) (.cells #[.string ⟨#[]⟩, .slice none 0 0] 59)) sW.2.2.1, cell_up (up_alloc (up_alloc (Below.refl _ _) (.cells #[.string x5, .slice B5 m5 c5, .string xf, .slice none 0 0] 59)) (.cells #[.string ⟨#[]⟩, .slice none 0 0] 59)) sW.2.2.2.1, cell_up (up_alloc (up_alloc (Below.refl _ _) (.cells #[.string x5, .slice B5 m5 c5, .string xf, .slice none 0 0] 59)) (.cells #[.string ⟨#[]⟩, .slice none 0 0] 59)) sW.2.2.2.2.1, cell_up (up_alloc (up_alloc (Below.refl _ _) (.cells #[.string x5, .slice B5 m5 c5, .string xf, .slice none 0 0] 59)) (.cells #[.string ⟨#[]⟩, .slice none 0 0] 59)) sW.2.2.2.2.2⟩) (fun hHeld => ?_)
                      clear hK
                      try simp only [Act.put, List.setIfInBounds_toArray, List.set_cons_zero, List.set_cons_succ, List.getElem_toArray, List.getElem_cons_zero, List.getElem_cons_succ]
                      have HZ : Hid (((wf.alloc (.cells #[.string x5, .slice B5 m5 c5, .string xf, .slice none 0 0] 59)).alloc (.cells #[.string ⟨#[]⟩, .slice none 0 0] 59)).heap[wf.heap.size + 1]? = some (.cells #[.string ⟨#[]⟩, .slice none 0 0] 59 (0, 0))) := by first | exact block_new _ _ | exact new2 _ _ _
                      have HTCf : Hid (TAt wf (fun k => (P k ∧ k ≠ w.heap.size + 1) ∧ k ≠ wf.heap.size + 1) _ _) := HTCf.out.move fun k hk ho => ⟨⟨ho, by omega⟩, rfl⟩
                      have HTDf : Hid (TAt wf (fun k => (P k ∧ k ≠ w.heap.size + 1) ∧ k ≠ wf.heap.size + 1) _ _) := HTDf.out.move fun k hk ho => ⟨⟨ho, by omega⟩, rfl⟩
                      refine wpAnyH_ready (rs := [5]) (by kernel_rfl) (by simp) ?_
                      refine AllReadyH.cons rfl (fun K hK => ?_) AllReadyH.nil
                      · go_simp
                        go_at_call 71
                        refine (HL1.out (fun k => (P k ∧ k ≠ w.heap.size + 1) ∧ k ≠ wf.heap.size + 1) _ _ x5 xf B5 none m5 c5 0 0 (fun k hk => ⟨HPP.out _ (by simp <;> omega) k hk, by (have hk2 := hk); simp at hk2; omega⟩) (by first | exact block_new _ _ | exact old2 _ _ _ | exact new2 _ _ _) (HTDf.out.up (by repeat (first | exact Below.refl _ _ | refine up_drew ?_ | refine up_alloc ?_ _))) (HTFW.out _ _)).mono ?_
                        rintro e w12 ⟨⟨x12, B12, m12, c12, rfl, ht12⟩, hb⟩
                        have hb12 : Below wf.heap.size wf w12 := up_trans (by repeat (first | exact Below.refl _ _ | refine up_drew ?_ | refine up_alloc ?_ _)) hb
                        have HW12 : Hid (Below wf.heap.size wf w12) := up_trans (Below.refl _ _) hb12
                        have HT12 := Lib.hid ht12
                        have hx12 := hb.size
                        simp at hx12
                        have hz12 := HW12.out.size
                        have hy12 := hb12.size
                        have HZ := Lib.hid (block_up hb HZ.out)
                        clear ht12 hb
                        refine hK.out _ _ (by exact ⟨cell_up HW12.out sW.1, cell_up HW12.out sW.2.1, cell_up HW12.out sW.2.2.1, cell_up HW12.out sW.2.2.2.1, cell_up HW12.out sW.2.2.2.2.1, cell_up HW12.out sW.2.2.2.2.2⟩) (fun hHeld => ?_)
                        clear hK
                        try simp only [Act.put, List.setIfInBounds_toArray, List.set_cons_zero, List.set_cons_succ, List.getElem_toArray, List.getElem_cons_zero, List.getElem_cons_succ]
                        refine wpAnyH_ready (rs := [6]) (by kernel_rfl) (by simp) ?_
                        refine AllReadyH.cons rfl (fun K hK => ?_) AllReadyH.nil
                        · go_simp
                          refine hK.out _ _ (by exact ⟨cell_up (up_alloc HW12.out (.cells #[.string x4, .slice B4 m4 c4', .string x12, .slice B12 m12 c12] 59)) sW.1, cell_up (up_alloc HW12.out (.cells #[.string x4, .slice B4 m4 c4', .string x12, .slice B12 m12 c12] 59)) sW.2.1, cell_up (up_alloc HW12.out (.cells #[.string x4, .slice B4 m4 c4', .string x12, .slice B12 m12 c12] 59)) sW.2.2.1, cell_up (up_alloc HW12.out (.cells #[.string x4, .slice B4 m4 c4', .string x12, .slice B12 m12 c12] 59)) sW.2.2.2.1, cell_up (up_alloc HW12.out (.cells #[.string x4, .slice B4 m4 c4', .string x12, .slice B12 m12 c12] 59)) sW.2.2.2.2.1, cell_up (up_alloc HW12.out (.cells #[.string x4, .slice B4 m4 c4', .string x12, .slice B12 m12 c12] 59)) sW.2.2.2.2.2⟩) (fun hHeld => ?_)
                          clear hK
                          try simp only [Act.put, List.setIfInBounds_toArray, List.set_cons_zero, List.set_cons_succ, List.getElem_toArray, List.getElem_cons_zero, List.getElem_cons_succ]
                          have HZ := Lib.hid (block_alloc HZ.out (.cells #[.string x4, .slice B4 m4 c4', .string x12, .slice B12 m12 c12] 59))
                          refine wpAnyH_ready (rs := [7]) (by kernel_rfl) (by simp) ?_
                          refine AllReadyH.cons rfl (fun K hK => ?_) AllReadyH.nil
                          · go_simp
                            go_at_call 71
                            refine (HL2.out (fun k => (P k ∧ k ≠ w.heap.size + 1) ∧ k ≠ wf.heap.size + 1) _ _ x4 x12 B4 B12 m4 c4' m12 c12 (fun k hk => ⟨HPP.out _ (by simp <;> omega) k hk, by (have hk2 := hk); simp at hk2; omega⟩) (by first | exact block_new _ _ | exact old2 _ _ _ | exact new2 _ _ _) (HTCf.out.up (up_trans HW12.out (by repeat (first | exact Below.refl _ _ | refine up_drew ?_ | refine up_alloc ?_ _)))) (HT12.out.up (by repeat (first | exact Below.refl _ _ | refine up_drew ?_ | refine up_alloc ?_ _)))).mono ?_
                            rintro e w13 ⟨⟨x13, B13, m13, c13, rfl, ht13⟩, hb⟩
                            have hb13 : Below w12.heap.size w12 w13 := up_trans (by repeat (first | exact Below.refl _ _ | refine up_drew ?_ | refine up_alloc ?_ _)) hb
                            have HW13 : Hid (Below wf.heap.size wf w13) := up_trans HW12.out hb13
                            have HT13 := Lib.hid ht13
                            have hx13 := hb.size
                            simp at hx13
                            have hz13 := HW13.out.size
                            have hy13 := hb13.size
                            have HZ := Lib.hid (block_up hb HZ.out)
                            clear ht13 hb
                            refine hK.out _ _ (by exact ⟨cell_up HW13.out sW.1, cell_up HW13.out sW.2.1, cell_up HW13.out sW.2.2.1, cell_up HW13.out sW.2.2.2.1, cell_up HW13.out sW.2.2.2.2.1, cell_up HW13.out sW.2.2.2.2.2⟩) (fun hHeld => ?_)
                            clear hK
                            try simp only [Act.put, List.setIfInBounds_toArray, List.set_cons_zero, List.set_cons_succ, List.getElem_toArray, List.getElem_cons_zero, List.getElem_cons_succ]
                            refine wpAnyH_ready (rs := [8]) (by kernel_rfl) (by simp) ?_
                            refine AllReadyH.cons rfl (fun K hK => ?_) AllReadyH.nil
                            · go_simp
                              refine hK.out _ _ (by exact ⟨cell_up (up_alloc HW13.out (.cells #[.string xf, .slice none 0 0, .string x13, .slice B13 m13 c13] 59)) sW.1, cell_up (up_alloc HW13.out (.cells #[.string xf, .slice none 0 0, .string x13, .slice B13 m13 c13] 59)) sW.2.1, cell_up (up_alloc HW13.out (.cells #[.string xf, .slice none 0 0, .string x13, .slice B13 m13 c13] 59)) sW.2.2.1, cell_up (up_alloc HW13.out (.cells #[.string xf, .slice none 0 0, .string x13, .slice B13 m13 c13] 59)) sW.2.2.2.1, cell_up (up_alloc HW13.out (.cells #[.string xf, .slice none 0 0, .string x13, .slice B13 m13 c13] 59)) sW.2.2.2.2.1, cell_up (up_alloc HW13.out (.cells #[.string xf, .slice none 0 0, .string x13, .slice B13 m13 c13] 59)) sW.2.2.2.2.2⟩) (fun hHeld => ?_)
                              clear hK
                              try simp only [Act.put, List.setIfInBounds_toArray, List.set_cons_zero, List.set_cons_succ, List.getElem_toArray, List.getElem_cons_zero, List.getElem_cons_succ]
                              have HZ := Lib.hid (block_alloc HZ.out (.cells #[.string xf, .slice none 0 0, .string x13, .slice B13 m13 c13] 59))
                              refine wpAnyH_ready (rs := [9]) (by kernel_rfl) (by simp) ?_
                              refine AllReadyH.cons rfl (fun K hK => ?_) AllReadyH.nil
                              · go_simp
                                go_at_call 71
                                refine (HL3.out (fun k => (P k ∧ k ≠ w.heap.size + 1) ∧ k ≠ wf.heap.size + 1) _ _ xf x13 none B13 0 0 m13 c13 (fun k hk => ⟨HPP.out _ (by simp <;> omega) k hk, by (have hk2 := hk); simp at hk2; omega⟩) (by first | exact block_new _ _ | exact old2 _ _ _ | exact new2 _ _ _) (HTFW.out _ _) (HT13.out.up (by repeat (first | exact Below.refl _ _ | refine up_drew ?_ | refine up_alloc ?_ _)))).mono ?_
                                rintro e w14 ⟨⟨x14, B14, m14, c14, rfl, ht14⟩, hb⟩
                                have hb14 : Below w13.heap.size w13 w14 := up_trans (by repeat (first | exact Below.refl _ _ | refine up_drew ?_ | refine up_alloc ?_ _)) hb
                                have HW14 : Hid (Below wf.heap.size wf w14) := up_trans HW13.out hb14
                                have HT14 := Lib.hid ht14
                                have hx14 := hb.size
                                simp at hx14
                                have hz14 := HW14.out.size
                                have hy14 := hb14.size
                                have HZ := Lib.hid (block_up hb HZ.out)
                                clear ht14 hb
                                refine hK.out _ _ (by exact ⟨cell_up HW14.out sW.1, cell_up HW14.out sW.2.1, cell_up HW14.out sW.2.2.1, cell_up HW14.out sW.2.2.2.1, cell_up HW14.out sW.2.2.2.2.1, cell_up HW14.out sW.2.2.2.2.2⟩) (fun hHeld => ?_)
                                clear hK
                                try simp only [Act.put, List.setIfInBounds_toArray, List.set_cons_zero, List.set_cons_succ, List.getElem_toArray, List.getElem_cons_zero, List.getElem_cons_succ]
                                refine wpAnyH_ready (rs := [11]) (by kernel_rfl) (by simp) ?_
                                refine AllReadyH.cons rfl (fun K hK => ?_) AllReadyH.nil
                                · have z0 := block_cell HZ.out 0
                                  have z1 := block_cell HZ.out 1
                                  have zf0 := block_free HZ.out 0
                                  have zf1 := block_free HZ.out 1
                                  have lz := lt_of_block HZ.out
                                  go_simp
                                  refine hK.out _ _ (by exact ⟨cell_set2 (cell_up HW14.out sW.1) (by omega), cell_set2 (cell_up HW14.out sW.2.1) (by omega), cell_set2 (cell_up HW14.out sW.2.2.1) (by omega), cell_set2 (cell_up HW14.out sW.2.2.2.1) (by omega), cell_set2 (cell_up HW14.out sW.2.2.2.2.1) (by omega), cell_set2 (cell_up HW14.out sW.2.2.2.2.2) (by omega)⟩) (fun hHeld => ?_)
                                  clear hK
                                  try simp only [Act.put, List.setIfInBounds_toArray, List.set_cons_zero, List.set_cons_succ, List.getElem_toArray, List.getElem_cons_zero, List.getElem_cons_succ]
                                  refine wpAnyH_done (by kernel_rfl) ?_ _
                                  refine NoPanic.normal ?_
                                  go_wp2_with fail
                                  go_meet
                                  exact ⟨wf.heap.size + 1, x14, B14, m14, c14, rfl, set2_new HZ.out _ _, (HT14.out.up (by repeat (first | exact Below.refl _ _ | refine up_drew ?_ | refine up_alloc ?_ _))).move fun k hk ho => ⟨ho.1, set2_block _ _ _ ho.2⟩, set0 (set0 (up_trans HBW.out (up_trans HW14.out (by repeat (first | exact Below.refl _ _ | refine up_drew ?_ | refine up_alloc ?_ _)))) (by omega)) (by omega), (set2_block _ _ _ (by omega)).trans (block_up (up_trans HW14.out (by repeat (first | exact Below.refl _ _ | refine up_drew ?_ | refine up_alloc ?_ _))) RW.out)⟩
                  · go_simp
                    refine hK.out _ _ (by exact ⟨cell_up (up_alloc (Below.refl _ _) (.cells #[.string ⟨#[]⟩, .slice none 0 0] 59)) sW.1, cell_up (up_alloc (Below.refl _ _) (.cells #[.string ⟨#[]⟩, .slice none 0 0] 59)) sW.2.1, cell_up (up_alloc (Below.refl _ _) (.cells #[.string ⟨#[]⟩, .slice none 0 0] 59)) sW.2.2.1, cell_up (up_alloc (Below.refl _ _) (.cells #[.string ⟨#[]⟩, .slice none 0 0] 59)) sW.2.2.2.1, cell_up (up_alloc (Below.refl _ _) (.cells #[.string ⟨#[]⟩, .slice none 0 0] 59)) sW.2.2.2.2.1, cell_up (up_alloc (Below.refl _ _) (.cells #[.string ⟨#[]⟩, .slice none 0 0] 59)) sW.2.2.2.2.2⟩) (fun hHeld => ?_)
                    clear hK
                    try simp only [Act.put, List.setIfInBounds_toArray, List.set_cons_zero, List.set_cons_succ, List.getElem_toArray, List.getElem_cons_zero, List.getElem_cons_succ]
                    have HZ : Hid ((wf.alloc (.cells #[.string ⟨#[]⟩, .slice none 0 0] 59)).heap[wf.heap.size]? = some (.cells #[.string ⟨#[]⟩, .slice none 0 0] 59 (0, 0))) := by first | exact block_new _ _ | exact new2 _ _ _
                    have HTCf : Hid (TAt wf (fun k => (P k ∧ k ≠ w.heap.size + 1) ∧ k ≠ wf.heap.size) _ _) := HTCf.out.move fun k hk ho => ⟨⟨ho, by omega⟩, rfl⟩
                    have HTDf : Hid (TAt wf (fun k => (P k ∧ k ≠ w.heap.size + 1) ∧ k ≠ wf.heap.size) _ _) := HTDf.out.move fun k hk ho => ⟨⟨ho, by omega⟩, rfl⟩
                    refine wpAnyH_ready (rs := [4]) (by kernel_rfl) (by simp) ?_
                    refine AllReadyH.cons rfl (fun K hK => ?_) AllReadyH.nil
                    · go_simp
                      refine hK.out _ _ (by exact ⟨cell_up (up_alloc (up_alloc (Below.refl _ _) (.cells #[.string ⟨#[]⟩, .slice none 0 0] 59)) (.cells #[.string x5, .slice B5 m5 c5, .string xf, .slice none 0 0] 59)) sW.1, cell_up (up_alloc (up_alloc (Below.refl _ _) (.cells #[.string ⟨#[]⟩, .slice none 0 0] 59)) (.cells #[.string x5, .slice B5 m5 c5, .string xf, .slice none 0 0] 59)) sW.2.1, cell_up (up_alloc (up_alloc (Below.refl _ _) (.cells #[.string ⟨#[]⟩, .slice none 0 0] 59)) (.cells #[.string x5, .slice B5 m5 c5, .string xf, .slice none 0 0] 59)) sW.2.2.1, cell_up (up_alloc (up_alloc (Below.refl _ _) (.cells #[.string ⟨#[]⟩, .slice none 0 0] 59)) (.cells #[.string x5, .slice B5 m5 c5, .string xf, .slice none 0 0] 59)) sW.2.2.2.1, cell_up (up_alloc (up_alloc (Below.refl _ _) (.cells #[.string ⟨#[]⟩, .slice none 0 0] 59)) (.cells #[.string x5, .slice B5 m5 c5, .string xf, .slice none 0 0] 59)) sW.2.2.2.2.1, cell_up (up_alloc (up_alloc (Below.refl _ _) (.cells #[.string ⟨#[]⟩, .slice none 0 0] 59)) (.cells #[.string x5, .slice B5 m5 c5, .string xf, .slice none 0 0] 59)) sW.2.2.2.2.2⟩) (fun hHeld => ?_)
                      clear hK
                      try simp only [Act.put, List.setIfInBounds_toArray, List.set_cons_zero, List.set_cons_succ, List.getElem_toArray, List.getElem_cons_zero, List.getElem_cons_succ]
                      have HZ := Lib.hid (block_alloc HZ.out (.cells #[.string x5, .slice B5 m5 c5, .string xf, .slice none 0 0] 59))
                      refine wpAnyH_ready (rs := [5]) (by kernel_rfl) (by simp) ?_
                      refine AllReadyH.cons rfl (fun K hK => ?_) AllReadyH.nil
                      · go_simp
                        go_at_call 71
                        refine (HL1.out (fun k => (P k ∧ k ≠ w.heap.size + 1) ∧ k ≠ wf.heap.size) _ _ x5 xf B5 none m5 c5 0 0 (fun k hk => ⟨HPP.out _ (by simp <;> omega) k hk, by (have hk2 := hk); simp at hk2; omega⟩) (by first | exact block_new _ _ | exact old2 _ _ _ | exact new2 _ _ _) (HTDf.out.up (by repeat (first | exact Below.refl _ _ | refine up_drew ?_ | refine up_alloc ?_ _))) (HTFW.out _ _)).mono ?_
                        rintro e w12 ⟨⟨x12, B12, m12, c12, rfl, ht12⟩, hb⟩
                        have hb12 : Below wf.heap.size wf w12 := up_trans (by repeat (first | exact Below.refl _ _ | refine up_drew ?_ | refine up_alloc ?_ _)) hb
                        have HW12 : Hid (Below wf.heap.size wf w12) := up_trans (Below.refl _ _) hb12
                        have HT12 := Lib.hid ht12
                        have hx12 := hb.size
                        simp at hx12
                        have hz12 := HW12.out.size
                        have hy12 := hb12.size
                        have HZ := Lib.hid (block_up hb HZ.out)
                        clear ht12 hb
                        refine hK.out _ _ (by exact ⟨cell_up HW12.out sW.1, cell_up HW12.out sW.2.1, cell_up HW12.out sW.2.2.1, cell_up HW12.out sW.2.2.2.1, cell_up HW12.out sW.2.2.2.2.1, cell_up HW12.out sW.2.2.2.2.2⟩) (fun hHeld => ?_)
                        clear hK
                        try simp only [Act.put, List.setIfInBounds_toArray, List.set_cons_zero, List.set_cons_succ, List.getElem_toArray, List.getElem_cons_zero, List.getElem_cons_succ]
                        refine wpAnyH_ready (rs := [6]) (by kernel_rfl) (by simp) ?_
                        refine AllReadyH.cons rfl (fun K hK => ?_) AllReadyH.nil
                        · go_simp
                          refine hK.out _ _ (by exact ⟨cell_up (up_alloc HW12.out (.cells #[.string x4, .slice B4 m4 c4', .string x12, .slice B12 m12 c12] 59)) sW.1, cell_up (up_alloc HW12.out (.cells #[.string x4, .slice B4 m4 c4', .string x12, .slice B12 m12 c12] 59)) sW.2.1, cell_up (up_alloc HW12.out (.cells #[.string x4, .slice B4 m4 c4', .string x12, .slice B12 m12 c12] 59)) sW.2.2.1, cell_up (up_alloc HW12.out (.cells #[.string x4, .slice B4 m4 c4', .string x12, .slice B12 m12 c12] 59)) sW.2.2.2.1, cell_up (up_alloc HW12.out (.cells #[.string x4, .slice B4 m4 c4', .string x12, .slice B12 m12 c12] 59)) sW.2.2.2.2.1, cell_up (up_alloc HW12.out (.cells #[.string x4, .slice B4 m4 c4', .string x12, .slice B12 m12 c12] 59)) sW.2.2.2.2.2⟩) (fun hHeld => ?_)
                          clear hK
                          try simp only [Act.put, List.setIfInBounds_toArray, List.set_cons_zero, List.set_cons_succ, List.getElem_toArray, List.getElem_cons_zero, List.getElem_cons_succ]
                          have HZ := Lib.hid (block_alloc HZ.out (.cells #[.string x4, .slice B4 m4 c4', .string x12, .slice B12 m12 c12] 59))
                          refine wpAnyH_ready (rs := [7]) (by kernel_rfl) (by simp) ?_
                          refine AllReadyH.cons rfl (fun K hK => ?_) AllReadyH.nil
                          · go_simp
                            go_at_call 71
                            refine (HL2.out (fun k => (P k ∧ k ≠ w.heap.size + 1) ∧ k ≠ wf.heap.size) _ _ x4 x12 B4 B12 m4 c4' m12 c12 (fun k hk => ⟨HPP.out _ (by simp <;> omega) k hk, by (have hk2 := hk); simp at hk2; omega⟩) (by first | exact block_new _ _ | exact old2 _ _ _ | exact new2 _ _ _) (HTCf.out.up (up_trans HW12.out (by repeat (first | exact Below.refl _ _ | refine up_drew ?_ | refine up_alloc ?_ _)))) (HT12.out.up (by repeat (first | exact Below.refl _ _ | refine up_drew ?_ | refine up_alloc ?_ _)))).mono ?_
                            rintro e w13 ⟨⟨x13, B13, m13, c13, rfl, ht13⟩, hb⟩
                            have hb13 : Below w12.heap.size w12 w13 := up_trans (by repeat (first | exact Below.refl _ _ | refine up_drew ?_ | refine up_alloc ?_ _)) hb
                            have HW13 : Hid (Below wf.heap.size wf w13) := up_trans HW12.out hb13
                            have HT13 := Lib.hid ht13
                            have hx13 := hb.size
                            simp at hx13
                            have hz13 := HW13.out.size
                            have hy13 := hb13.size
                            have HZ := Lib.hid (block_up hb HZ.out)
                            clear ht13 hb
                            refine hK.out _ _ (by exact ⟨cell_up HW13.out sW.1, cell_up HW13.out sW.2.1, cell_up HW13.out sW.2.2.1, cell_up HW13.out sW.2.2.2.1, cell_up HW13.out sW.2.2.2.2.1, cell_up HW13.out sW.2.2.2.2.2⟩) (fun hHeld => ?_)
                            clear hK
                            try simp only [Act.put, List.setIfInBounds_toArray, List.set_cons_zero, List.set_cons_succ, List.getElem_toArray, List.getElem_cons_zero, List.getElem_cons_succ]
                            refine wpAnyH_ready (rs := [8]) (by kernel_rfl) (by simp) ?_
                            refine AllReadyH.cons rfl (fun K hK => ?_) AllReadyH.nil
                            · go_simp
                              refine hK.out _ _ (by exact ⟨cell_up (up_alloc HW13.out (.cells #[.string xf, .slice none 0 0, .string x13, .slice B13 m13 c13] 59)) sW.1, cell_up (up_alloc HW13.out (.cells #[.string xf, .slice none 0 0, .string x13, .slice B13 m13 c13] 59)) sW.2.1, cell_up (up_alloc HW13.out (.cells #[.string xf, .slice none 0 0, .string x13, .slice B13 m13 c13] 59)) sW.2.2.1, cell_up (up_alloc HW13.out (.cells #[.string xf, .slice none 0 0, .string x13, .slice B13 m13 c13] 59)) sW.2.2.2.1, cell_up (up_alloc HW13.out (.cells #[.string xf, .slice none 0 0, .string x13, .slice B13 m13 c13] 59)) sW.2.2.2.2.1, cell_up (up_alloc HW13.out (.cells #[.string xf, .slice none 0 0, .string x13, .slice B13 m13 c13] 59)) sW.2.2.2.2.2⟩) (fun hHeld => ?_)
                              clear hK
                              try simp only [Act.put, List.setIfInBounds_toArray, List.set_cons_zero, List.set_cons_succ, List.getElem_toArray, List.getElem_cons_zero, List.getElem_cons_succ]
                              have HZ := Lib.hid (block_alloc HZ.out (.cells #[.string xf, .slice none 0 0, .string x13, .slice B13 m13 c13] 59))
                              refine wpAnyH_ready (rs := [9]) (by kernel_rfl) (by simp) ?_
                              refine AllReadyH.cons rfl (fun K hK => ?_) AllReadyH.nil
                              · go_simp
                                go_at_call 71
                                refine (HL3.out (fun k => (P k ∧ k ≠ w.heap.size + 1) ∧ k ≠ wf.heap.size) _ _ xf x13 none B13 0 0 m13 c13 (fun k hk => ⟨HPP.out _ (by simp <;> omega) k hk, by (have hk2 := hk); simp at hk2; omega⟩) (by first | exact block_new _ _ | exact old2 _ _ _ | exact new2 _ _ _) (HTFW.out _ _) (HT13.out.up (by repeat (first | exact Below.refl _ _ | refine up_drew ?_ | refine up_alloc ?_ _)))).mono ?_
                                rintro e w14 ⟨⟨x14, B14, m14, c14, rfl, ht14⟩, hb⟩
                                have hb14 : Below w13.heap.size w13 w14 := up_trans (by repeat (first | exact Below.refl _ _ | refine up_drew ?_ | refine up_alloc ?_ _)) hb
                                have HW14 : Hid (Below wf.heap.size wf w14) := up_trans HW13.out hb14
                                have HT14 := Lib.hid ht14
                                have hx14 := hb.size
                                simp at hx14
                                have hz14 := HW14.out.size
                                have hy14 := hb14.size
                                have HZ := Lib.hid (block_up hb HZ.out)
                                clear ht14 hb
                                refine hK.out _ _ (by exact ⟨cell_up HW14.out sW.1, cell_up HW14.out sW.2.1, cell_up HW14.out sW.2.2.1, cell_up HW14.out sW.2.2.2.1, cell_up HW14.out sW.2.2.2.2.1, cell_up HW14.out sW.2.2.2.2.2⟩) (fun hHeld => ?_)
                                clear hK
                                try simp only [Act.put, List.setIfInBounds_toArray, List.set_cons_zero, List.set_cons_succ, List.getElem_toArray, List.getElem_cons_zero, List.getElem_cons_succ]
                                refine wpAnyH_ready (rs := [11]) (by kernel_rfl) (by simp) ?_
                                refine AllReadyH.cons rfl (fun K hK => ?_) AllReadyH.nil
                                · have z0 := block_cell HZ.out 0
                                  have z1 := block_cell HZ.out 1
                                  have zf0 := block_free HZ.out 0
                                  have zf1 := block_free HZ.out 1
                                  have lz := lt_of_block HZ.out
                                  go_simp
                                  refine hK.out _ _ (by exact ⟨cell_set2 (cell_up HW14.out sW.1) (by omega), cell_set2 (cell_up HW14.out sW.2.1) (by omega), cell_set2 (cell_up HW14.out sW.2.2.1) (by omega), cell_set2 (cell_up HW14.out sW.2.2.2.1) (by omega), cell_set2 (cell_up HW14.out sW.2.2.2.2.1) (by omega), cell_set2 (cell_up HW14.out sW.2.2.2.2.2) (by omega)⟩) (fun hHeld => ?_)
                                  clear hK
                                  try simp only [Act.put, List.setIfInBounds_toArray, List.set_cons_zero, List.set_cons_succ, List.getElem_toArray, List.getElem_cons_zero, List.getElem_cons_succ]
                                  refine wpAnyH_done (by kernel_rfl) ?_ _
                                  refine NoPanic.normal ?_
                                  go_wp2_with fail
                                  go_meet
                                  exact ⟨wf.heap.size, x14, B14, m14, c14, rfl, set2_new HZ.out _ _, (HT14.out.up (by repeat (first | exact Below.refl _ _ | refine up_drew ?_ | refine up_alloc ?_ _))).move fun k hk ho => ⟨ho.1, set2_block _ _ _ ho.2⟩, set0 (set0 (up_trans HBW.out (up_trans HW14.out (by repeat (first | exact Below.refl _ _ | refine up_drew ?_ | refine up_alloc ?_ _)))) (by omega)) (by omega), (set2_block _ _ _ (by omega)).trans (block_up (up_trans HW14.out (by repeat (first | exact Below.refl _ _ | refine up_drew ?_ | refine up_alloc ?_ _))) RW.out)⟩
                case rest =>
                  obtain ⟨go, x14, B14, m14, c14, rfl, O15, HT15, HW15, R15⟩ := hcut
                  have o150 := block_cell O15.out 0
                  have o151 := block_cell O15.out 1
                  have rc0 := block_cell R15.out 0
                  have rc1 := block_cell R15.out 1
                  have fr0 := block_free R15.out 0
                  have fr1 := block_free R15.out 1
                  have lr15 := lt_of_block R15.out
                  clear HL1 HL2 HL3 HTFW HTCf HTDf HTCW HTDW sW FW MW NW RW HBW HPP lf0 lc0 ld0
                  go_upto_region 17 with fail
                  go_region_with (go_at_call 156; (refine (HLA.out _ _ ((HT15.out.up (up_drew (Below.refl _ _))).weak fun _ _ => trivial)).mono ?_); rintro e w16 ⟨rfl, hb16⟩; have hb16' : Below wc.heap.size wc w16 := up_trans (up_drew (Below.refl _ wc)) hb16; have R16 := Lib.hid (block_up hb16' R15.out); have O16 := Lib.hid (block_up hb16' O15.out); have rc0' := block_cell R16.out 0; have rc1' := block_cell R16.out 1; have fr0' := block_free R16.out 0; have fr1' := block_free R16.out 1; have lr16 := lt_of_block R16.out; have o160 := block_cell O16.out 0; have o161 := block_cell O16.out 1; have HW16 := Lib.hid (up_trans HW15.out hb16'); have HT16 := Lib.hid (HT15.out.up hb16'); clear hb16 hb16')
                  all_goals go_wp2
                  all_goals refine bodyPost_ret (v := .tuple #[.agg #[.string x14, .slice B14 m14 c14], .bool bb]) (by simp [results, Tryz.results159, go_sem, rc0', rc1', lr16, hd]) rfl ?_
                  all_goals exact ⟨_, _, HOUTD.out, ⟨_, _, _, _, rfl, HT16.out.move fun k hk ho => by
                    have h1 : P k := ho.1
                    have h2 : k ≠ w.heap.size + 1 := ho.2
                    refine ⟨h1, ?_⟩
                    repeat (first | rfl | rw [drew_heap] | rw [Below.heap_setCell _ ⟨w.heap.size + 1, 0, none⟩ _ k (by show k ≠ w.heap.size + 1; omega)] | rw [Below.heap_setCell _ ⟨w.heap.size + 1, 1, none⟩ _ k (by show k ≠ w.heap.size + 1; omega)])⟩, by repeat (first | exact HW16.out | refine up_drew ?_ | refine set0 ?_ (by omega))⟩

end Go.Proofs.YtpokompplapkhaaGreatDoor
