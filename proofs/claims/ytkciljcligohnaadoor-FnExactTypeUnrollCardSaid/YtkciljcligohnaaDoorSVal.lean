/- The reference's values: l1Parse, l6In, l1Head, l2Element, l2Shape, l2Size, l2Value. -/
import Derived.Test.YtkciljcligohnaaDoorSRead
import Derived.Test.YtkciljcligohnaaDoorVal2
namespace Go.Proofs.YtkciljcligohnaaDoor
open Go.RowKit
set_option linter.unusedVariables false
set_option linter.unusedSimpArgs false

theorem l6In_any (a b c : Int) (w : World) : Calls Tryd.prog 105 #[.int .i64 a, .int .i64 b, .int .i64 c] w fun e w' => e = .returned (.bool (decide (b ≤ a) && decide (a ≤ c))) ∧ w = w' := by
  go_enter Tryd.func105, Tryd.ntmps105
  go_wp2
  all_goals go_ret
  all_goals exact ⟨congrArg (fun b => Ending.returned (.bool b)) (by first | rfl | (simp; done) | (simp; omega)), rfl⟩

/-- What l1Parse does. -/
def TPost (w : World) (o : Option Tr) (e : Ending) (w' : World) : Prop :=
  Below w.heap.size w w' ∧ match o with
    | some t => ∃ v, e = .returned (.tuple #[v, .bool true]) ∧ TAt w' (fun k => w.heap.size ≤ k) t v
    | none => ∃ x A n c, e = .returned (.tuple #[.agg #[.string x, .slice A n c], .bool false])

theorem TAt.form {w : World} {ok : Nat → Prop} {t : Tr} {v : Value} (h : TAt w ok t v) : ∃ x A n c, v = .agg #[.string x, .slice A n c] := by
  cases t
  obtain ⟨A, c, rfl, _⟩ := h
  exact ⟨_, _, _, _, rfl⟩

set_option maxHeartbeats 1000000 in
theorem l1Parse_any (s : ByteArray) (w : World) (hs : s.size ≤ 9223372036854775807) : Calls Tryd.prog 75 #[.string s] w (TPost w (rdText s.data.toList)) := by
  by_cases hb : s.size ≤ 8000
  · have ho : rdText s.data.toList = match rd 300 s.data.toList with | some (t, []) => some t | _ => none := by
      unfold rdText
      rw [if_neg (by rw [size_list]; omega)]
      rfl
    have hcall := fun w => l1Read_any 300 s 0 0 w (Nat.le_refl _) hb (by omega) (by omega) (Nat.zero_le _)
    rw [List.drop_zero] at hcall
    clear hs
    cases hrd : rd 300 s.data.toList with
    | none =>
      rw [hrd] at ho hcall
      replace ho : rdText s.data.toList = none := ho
      rw [ho]
      have h1 : ((-1 : Int) == (s.size : Int)) = false := by rw [beq_eq_false_iff_ne]; omega
      replace hcall : ∀ w, Calls Tryd.prog 99 #[.string s, .int .i64 0, .int .i64 0] w (fun e w1 => Below w.heap.size w w1 ∧ ∃ x A n c, e = .returned (.tuple #[.agg #[.string x, .slice A n c], .int .i64 (-1)])) := hcall
      have HC := Lib.hid hcall
      clear ho hrd hcall
      go_enter Tryd.func75, Tryd.ntmps75
      go_wp2_with (go_at_call 99; refine (HC.out _).mono ?_; rintro e w1 ⟨hb1, x, A, n, c, rfl⟩; have g0 : w1.heap[w.heap.size]? = some (.cells #[.string (St []), .slice none 0 0] 43 (0, 0)) := block_up hb1 (block_new w _); have c0 : w1.cell? ⟨w.heap.size, 0, none⟩ = some (.string (St [])) := block_cell g0 0; have c1 : w1.cell? ⟨w.heap.size, 1, none⟩ = some (.slice none 0 0) := block_cell g0 1; have f0 := block_free g0 0; have f1 := block_free g0 1; have l0 := lt_of_block g0; have HB1 := Lib.hid (up_trans (up1 w _) hb1); clear hb1 g0)
      refine bodyPost_ret (v := .tuple #[.agg #[.string x, .slice A n c], .bool false]) (by simp [results, Tryd.results75, go_sem, c0, c1, l0]) rfl ?_
      exact ⟨by repeat (first | exact HB1.out | refine up_alloc ?_ _ | refine set0 ?_ (Nat.le_refl _)), _, _, _, _, rfl⟩
    | some tr =>
      obtain ⟨t, q⟩ := tr
      rw [hrd] at ho hcall
      have hlen := rd_len _ _ _ _ hrd
      rw [size_list] at hlen
      replace hcall : ∀ w, Calls Tryd.prog 99 #[.string s, .int .i64 0, .int .i64 0] w (fun e w1 => Below w.heap.size w w1 ∧ ∃ x A n c, e = .returned (.tuple #[.agg #[.string x, .slice A n c], .int .i64 ((s.size : Int) - (q.length : Int))]) ∧ TAt w1 (fun k => w.heap.size ≤ k) t (.agg #[.string x, .slice A n c])) := fun w => (hcall w).mono fun e w1 h => by
        obtain ⟨hb, v, he, hv⟩ := h
        obtain ⟨x, A, n, c, rfl⟩ := hv.form
        exact ⟨hb, x, A, n, c, he, hv⟩
      have HC := Lib.hid hcall
      clear hrd hcall
      cases q with
      | nil =>
        replace ho : rdText s.data.toList = some t := ho
        rw [ho]
        have h1 : (((s.size : Int) - (([] : List UInt8).length : Int)) == (s.size : Int)) = true := by simp
        clear ho hlen
        go_enter Tryd.func75, Tryd.ntmps75
        go_wp2_with (go_at_call 99; refine (HC.out _).mono ?_; rintro e w1 ⟨hb1, x, A, n, c, rfl, hv⟩; have HV := Lib.hid hv; have g0 : w1.heap[w.heap.size]? = some (.cells #[.string (St []), .slice none 0 0] 43 (0, 0)) := block_up hb1 (block_new w _); have c0 : w1.cell? ⟨w.heap.size, 0, none⟩ = some (.string (St [])) := block_cell g0 0; have c1 : w1.cell? ⟨w.heap.size, 1, none⟩ = some (.slice none 0 0) := block_cell g0 1; have f0 := block_free g0 0; have f1 := block_free g0 1; have l0 := lt_of_block g0; have HB1 := Lib.hid (up_trans (up1 w _) hb1); clear hb1 g0 hv)
        refine bodyPost_ret (v := .tuple #[.agg #[.string x, .slice A n c], .bool true]) (by simp [results, Tryd.results75, go_sem, c0, c1, l0]) rfl ?_
        refine ⟨by repeat (first | exact HB1.out | refine up_alloc ?_ _ | refine set0 ?_ (Nat.le_refl _)), _, rfl, ?_⟩
        exact HV.out.move fun k hk hok => ⟨Nat.le_of_succ_le (by simpa using hok), by
          have hok' : w.heap.size + 1 ≤ k := by simpa using hok
          rw [Below.heap_alloc _ _ _ (by simp [World.setCell]; omega), Below.heap_setCell _ ⟨w.heap.size, 1, none⟩ _ k (by show k ≠ w.heap.size; omega), Below.heap_setCell _ ⟨w.heap.size, 0, none⟩ _ k (by show k ≠ w.heap.size; omega)]⟩
      | cons b q =>
        replace ho : rdText s.data.toList = none := ho
        rw [ho]
        have h1 : (((s.size : Int) - ((b :: q).length : Int)) == (s.size : Int)) = false := by rw [beq_eq_false_iff_ne, List.length_cons]; omega
        generalize ((s.size : Int) - ((b :: q).length : Int)) = z at *
        clear ho hlen
        go_enter Tryd.func75, Tryd.ntmps75
        go_wp2_with (go_at_call 99; refine (HC.out _).mono ?_; rintro e w1 ⟨hb1, x, A, n, c, rfl, hv⟩; have g0 : w1.heap[w.heap.size]? = some (.cells #[.string (St []), .slice none 0 0] 43 (0, 0)) := block_up hb1 (block_new w _); have c0 : w1.cell? ⟨w.heap.size, 0, none⟩ = some (.string (St [])) := block_cell g0 0; have c1 : w1.cell? ⟨w.heap.size, 1, none⟩ = some (.slice none 0 0) := block_cell g0 1; have f0 := block_free g0 0; have f1 := block_free g0 1; have l0 := lt_of_block g0; have HB1 := Lib.hid (up_trans (up1 w _) hb1); clear hb1 g0 hv)
        refine bodyPost_ret (v := .tuple #[.agg #[.string x, .slice A n c], .bool false]) (by simp [results, Tryd.results75, go_sem, c0, c1, l0]) rfl ?_
        exact ⟨by repeat (first | exact HB1.out | refine up_alloc ?_ _ | refine set0 ?_ (Nat.le_refl _)), _, _, _, _, rfl⟩
  · have ho : rdText s.data.toList = none := by unfold rdText; rw [if_pos (by rw [size_list]; omega)]
    rw [ho]
    clear ho hs
    go_enter Tryd.func75, Tryd.ntmps75
    go_wp2_with fail
    refine bodyPost_ret (v := .tuple #[.agg #[.string ⟨#[]⟩, .slice none 0 0], .bool false]) (by simp [results, Tryd.results75, go_sem]) rfl ?_
    exact ⟨up1 w _, _, _, _, _, rfl⟩


theorem TAt.weak {w : World} {ok ok' : Nat → Prop} (hb : ∀ k, ok k → ok' k) {t : Tr} {v : Value} (h : TAt w ok t v) : TAt w ok' t v := h.move fun k _ ho => ⟨hb k ho, rfl⟩
theorem drew_heap (w : World) : w.drew.heap = w.heap := rfl

/-! ### a tree's parts, from its struct value -/

theorem TAt.parts {w : World} {ok : Nat → Prop} {s : List UInt8} {ps : List Tr} {v : Value} (h : TAt w ok (.mk s ps) v) : ∃ A c, v = .agg #[.string (St s), .slice A ps.length c] ∧ TRow w ok ps A := by
  obtain ⟨A, c, rfl, _, hr⟩ := h
  exact ⟨A, c, rfl, hr⟩
theorem TRow.uncons {w : World} {ok : Nat → Prop} {s : List UInt8} {ps ts : List Tr} {A : Option Addr} (h : TRow w ok (.mk s ps :: ts) A) :
    ∃ b o A' c, A = some ⟨b, o, none⟩ ∧ w.cell? ⟨b, o, none⟩ = some (.string (St s)) ∧ w.cell? ⟨b, o + 1, none⟩ = some (.slice A' ps.length c) ∧ ps.length ≤ c ∧ TRow w ok ps A' ∧ TRow w ok ts (some ⟨b, o + 2, none⟩) := by
  cases h with
  | cons b o s ps ts A' c cur h0 h1 h2 h3 hc hp ht => exact ⟨b, o, A', c, rfl, (block_cell h1 o).trans h2, (block_cell h1 (o + 1)).trans h3, hc, hp, ht⟩
theorem TRow.next {w : World} {ok : Nat → Prop} {s : List UInt8} {ps ts : List Tr} {b o : Nat} (h : TRow w ok (.mk s ps :: ts) (some ⟨b, o, none⟩)) :
    ∃ A' c, w.cell? ⟨b, o, none⟩ = some (.string (St s)) ∧ w.cell? ⟨b, o + 1, none⟩ = some (.slice A' ps.length c) ∧ ps.length ≤ c ∧ TRow w ok ps A' ∧ TRow w ok ts (some ⟨b, o + 2, none⟩) := by
  cases h with
  | cons b o s ps ts A' c cur h0 h1 h2 h3 hc hp ht => exact ⟨A', c, (block_cell h1 o).trans h2, (block_cell h1 (o + 1)).trans h3, hc, hp, ht⟩

/-- The first word of a list. -/
def headOf : Tr → List UInt8
  | .mk s ps => if s = [] then headAtom ps else []

set_option maxHeartbeats 1000000 in
theorem l1Head_any (t : Tr) (v : Value) (w : World) {ok : Nat → Prop} (h : TAt w ok t v) : Calls Tryd.prog 55 #[v] w fun e w' => e = .returned (.string (St (headOf t))) ∧ Below w.heap.size w w' := by
  obtain ⟨s, ps⟩ := t
  obtain ⟨A, c, rfl, hr⟩ := h.parts
  clear h
  by_cases hs : s = []
  · subst hs
    cases ps with
    | nil =>
      clear hr
      go_enter Tryd.func55, Tryd.ntmps55
      go_wp2_with fail
      go_ret
      exact ⟨rfl, up1 w _⟩
    | cons t ts =>
      obtain ⟨s1, p1⟩ := t
      obtain ⟨b, o, A', c', rfl, c0, _, _, _, _⟩ := hr.uncons
      have l0 := World.block_lt_of_cell? w _ c0
      replace l0 : b < w.heap.size := l0
      have hl : (0 : Int) < ((Tr.mk s1 p1 :: ts).length : Int) := by rw [List.length_cons]; omega
      have hl2 : (((Tr.mk s1 p1 :: ts).length : Int) == 0) = false := by rw [beq_eq_false_iff_ne, List.length_cons]; omega
      have he : headOf (.mk [] (Tr.mk s1 p1 :: ts)) = s1 := rfl
      rw [he]
      generalize (Tr.mk s1 p1 :: ts).length = L at *
      clear hr he
      go_enter Tryd.func55, Tryd.ntmps55
      go_wp2_with fail
      go_ret
      exact ⟨rfl, up1 w _⟩
  · have he : headOf (.mk s ps) = [] := by simp [headOf, hs]
    rw [he]
    have h1 := St_ne hs
    have h2 : (s != []) = true := by rw [bne_iff_ne]; exact hs
    clear hr he
    go_enter Tryd.func55, Tryd.ntmps55
    go_wp2_with fail
    go_ret
    exact ⟨rfl, up1 w _⟩


/-- The number that digits write. -/
def numB (l : List UInt8) : Int := l.foldl (fun n b => 10 * n + ((b.toNat : Int) - 48)) 0
/-- An element's number, or -1. -/
def elemNum (l : List UInt8) : Int := if elemB l = true then numB l.tail else -1

theorem digit_bounds {b : UInt8} (h : digitB b = true) : (48 : Int) ≤ b.toNat ∧ (b.toNat : Int) ≤ 57 := by
  have := (digitB_iff b).1 h
  omega
theorem numB_snoc (l : List UInt8) (b : UInt8) : numB (l ++ [b]) = 10 * numB l + ((b.toNat : Int) - 48) := by simp [numB]
theorem elem_bad {l : List UInt8} (h : elemB l = false) : elemNum l = -1 := by simp [elemNum, h]

set_option maxHeartbeats 1000000 in
set_option maxRecDepth 100000 in
theorem l2Element_bad1 (s : ByteArray) (w : World) (h : s.size < 2 ∨ 3 < s.size) : Calls Tryd.prog 113 #[.string s] w fun e w' => e = .returned (.int .i64 (-1)) ∧ w = w' := by
  have h1 : (decide ((2 : Int) ≤ (s.size : Int)) && decide ((s.size : Int) ≤ 3)) = false := by
    rw [Bool.and_eq_false_iff, decide_eq_false_iff_not, decide_eq_false_iff_not]; omega
  have hc := l6In_any (s.size : Int) 2 3
  rw [h1] at hc
  clear h h1
  go_enter Tryd.func113, Tryd.ntmps113
  go_wp2_with (go_at_call 105; refine (hc _).mono ?_; rintro e w' ⟨rfl, rfl⟩)
  go_ret
  exact ⟨rfl, rfl⟩

set_option maxHeartbeats 2000000 in
set_option maxRecDepth 100000 in
theorem l2Element_len (s : ByteArray) (w : World) (e0 : UInt8) (r : List UInt8) (hl : s.data.toList = e0 :: r) (hr : 1 ≤ r.length) (hr2 : r.length ≤ 2) :
    Calls Tryd.prog 113 #[.string s] w fun e w' => e = .returned (.int .i64 (elemNum (e0 :: r))) ∧ w = w' := by
  obtain ⟨_, h2, h3, h4, _⟩ := cons_bytes hl
  replace h4 := h4 h2
  have h7 : 2 ≤ s.size := by omega
  have h8 : s.size ≤ 3 := by omega
  have h1 : (decide ((2 : Int) ≤ (s.size : Int)) && decide ((s.size : Int) ≤ 3)) = true := by
    rw [Bool.and_eq_true, decide_eq_true_eq, decide_eq_true_eq]; omega
  have hc := l6In_any (s.size : Int) 2 3
  rw [h1] at hc
  clear h1
  have hget : ∀ k (hk : k < r.length) (h : k + 1 < s.size), s[k + 1] = r[k] := fun k hk h => by
    have : s.data.toList[k + 1]'(by rw [hl]; simp; omega) = r[k] := by simp [hl]
    exact this
  by_cases he0 : e0 = 101
  · subst he0
    by_cases h48 : r.length = 2 ∧ r[0] = 48
    · have hbad : elemNum (101 :: r) = -1 := by
        apply elem_bad
        rcases r with _ | ⟨a, _ | ⟨b, _ | ⟨c, r⟩⟩⟩
        · simp at hr
        · simp at h48
        · have : a = 48 := h48.2
          subst this
          simp [elemB]
        · simp at hr2
      rw [hbad]
      have k1 : ((s.size : Int) == 3) = true := by simp; omega
      have k3 : 1 < s.size := by omega
      have k2 : s[1] = 48 := by rw [hget 0 (by omega) k3]; exact h48.2
      clear hget h48 hbad hl h3
      go_enter Tryd.func113, Tryd.ntmps113
      go_wp2_with (go_at_call 105; refine (hc _).mono ?_; rintro e w' ⟨rfl, rfl⟩)
      go_ret
      exact ⟨rfl, rfl⟩
    · have hgood : elemB (101 :: r) = r.all digitB := by
        rcases r with _ | ⟨a, _ | ⟨b, _ | ⟨c, r⟩⟩⟩
        · simp at hr
        · simp [elemB]
        · have : ¬ a = 48 := fun h => h48 ⟨rfl, h⟩
          simp [elemB, this]
        · simp at hr2
      have HG := Lib.hid hgood
      have HL := Lib.hid hl
      have H3 := Lib.hid h3
      have k3 : 1 < s.size := by omega
      have k12 : (((s.size : Int) == 3) = true ∧ ((s[1].toNat : Int) == 48) = false) ∨ ((s.size : Int) == 3) = false := by
        by_cases hlen : r.length = 2
        · left
          refine ⟨by simp; omega, ?_⟩
          rw [hget 0 (by omega) k3]
          exact byte_ne (fun h => h48 ⟨hlen, h⟩)
        · right
          rw [beq_eq_false_iff_ne]; omega
      have HGET := Lib.hid hget
      clear hgood hl h3 h48 hget
      rcases k12 with ⟨k1, k2⟩ | k1
      all_goals
        go_enter Tryd.func113, Tryd.ntmps113
        go_wp2_with (go_at_call 105; refine (hc _).mono ?_; rintro e w' ⟨rfl, rfl⟩)
        go_loop [3, 4] (fun n i => ∃ k : Nat, k ≤ r.length ∧ i = .int .i64 ((k : Int) + 1) ∧ ∃ z : Int, n = .int .i64 z ∧ 0 ≤ z ∧ z ≤ 99 ∧ (k = 0 → z = 0) ∧ (k = 1 → z ≤ 9) ∧ Hid ((r.take k).all digitB = true ∧ z = numB (r.take k))) (fun _ i => r.length + 1 - (intOf i).toNat)
        case atStart => exact ⟨0, Nat.zero_le _, rfl, 0, rfl, by omega, by omega, fun _ => rfl, fun _ => by omega, by simp [numB, Hid]⟩
        case round =>
          obtain ⟨k, hk, rfl, z, rfl, hz0, hz9, hk0, hk1, HD⟩ := hrel
          have hkz : z ≤ 9 ∨ k = 2 := by
            have : k = 0 ∨ k = 1 ∨ k = 2 := by omega
            rcases this with h | h | h
            · left; have := hk0 h; omega
            · left; exact hk1 h
            · right; exact h
          have hk0' : k = 0 → z = 0 := hk0
          have HK0 := Lib.hid hk0'
          clear hk0 hk1 hk0'
          try clear k2
          have hs3 := H3.out
          by_cases hlt : k < r.length
          · have hlts : k + 1 < s.size := by omega
            have hg := HGET.out k hlt hlts
            have hz99 : z ≤ 9 := by rcases hkz with h | h; exact h; omega
            clear hkz
            cases hd : digitB r[k] with
            | true =>
              have hdb := digit_bounds hd
              have HT : Hid (r.take (k + 1) = r.take k ++ [r[k]]) := by
                show r.take (k + 1) = r.take k ++ [r[k]]
                rw [List.take_succ_eq_append_getElem hlt]
              have HDD := Lib.hid hd
              generalize hrk : r[k] = b at *
              have HRK := Lib.hid hrk
              clear hd hs3 hrk
              obtain ⟨hdb1, hdb2⟩ := hdb
              go_wp2
              go_round
              case rel => exact ⟨k + 1, by omega, by go_num, _, rfl, by omega, by omega, fun h => absurd h (Nat.succ_ne_zero k), fun h => by have h0 : z = 0 := HK0.out (by omega); omega, by rw [HT.out, List.all_append, HD.out.1]; simp [HDD.out], by rw [HT.out, numB_snoc, ← HD.out.2]⟩
              case measure => simp [intOf]; omega
            | false =>
              have hbad : elemNum (101 :: r) = -1 := elem_bad (by
                rw [HG.out]
                cases ha : r.all digitB with
                | false => rfl
                | true =>
                  have := List.all_eq_true.1 ha r[k] (List.getElem_mem hlt)
                  rw [hd] at this
                  cases this)
              have HBAD := Lib.hid hbad
              have hdb : (r[k].toNat : Int) < 48 ∨ (57 : Int) < r[k].toNat := by
                have := mt (digitB_iff r[k]).2 (by rw [hd]; simp)
                omega
              generalize hrk : r[k] = b at *
              have HRK := Lib.hid hrk
              clear hd hs3 hrk hbad
              rcases hdb with hdb | hdb
              · go_wp2
                go_ret
                exact ⟨congrArg (fun z => Ending.returned (.int .i64 z)) HBAD.out.symm, rfl⟩
              · have hdb2 : (48 : Int) ≤ b.toNat := by omega
                go_wp2
                go_ret
                exact ⟨congrArg (fun z => Ending.returned (.int .i64 z)) HBAD.out.symm, rfl⟩
          · have hkr : k = r.length := by omega
            have hend : elemNum (101 :: r) = z := by
              have h1 := HD.out.1
              have h2 := HD.out.2
              rw [hkr, List.take_length] at h1 h2
              unfold elemNum
              rw [if_pos (by rw [HG.out]; exact h1), h2]
              rfl
            have HEND := Lib.hid hend
            have hge : ¬ ((k : Int) + 1 < (s.size : Int)) := by omega
            clear hkz hend hkr hs3
            go_wp2
            go_ret
            exact ⟨congrArg (fun z => Ending.returned (.int .i64 z)) HEND.out.symm, rfl⟩
  · have hbad : elemNum (e0 :: r) = -1 := by
      apply elem_bad
      rcases r with _ | ⟨a, _ | ⟨b, _ | ⟨c, r⟩⟩⟩
      · rfl
      · simp [elemB, he0]
      · simp [elemB, he0]
      · rfl
    rw [hbad]
    have k1 : ((e0.toNat : Int) != 101) = true := byte_bne he0
    clear hget hbad hl h3 he0
    go_enter Tryd.func113, Tryd.ntmps113
    go_wp2_with (go_at_call 105; refine (hc _).mono ?_; rintro e w' ⟨rfl, rfl⟩)
    go_ret
    exact ⟨rfl, rfl⟩


theorem l2Element_any (s : ByteArray) (w : World) : Calls Tryd.prog 113 #[.string s] w fun e w' => e = .returned (.int .i64 (elemNum s.data.toList)) ∧ w = w' := by
  have hsz := size_list s
  match hl : s.data.toList with
  | [] => exact l2Element_bad1 s w (.inl (by rw [← hsz, hl]; simp))
  | [a] => exact l2Element_bad1 s w (.inl (by rw [← hsz, hl]; simp))
  | e0 :: a :: b :: c :: r => exact l2Element_bad1 s w (.inr (by rw [← hsz, hl]; simp))
  | [e0, a] => exact l2Element_len s w e0 [a] hl (by simp) (by simp)
  | [e0, a, b] => exact l2Element_len s w e0 [a, b] hl (by simp) (by simp)

theorem numB_nonneg (l : List UInt8) (h : l.all digitB = true) : 0 ≤ numB l := by
  suffices ∀ (l : List UInt8) (n : Int), 0 ≤ n → l.all digitB = true → 0 ≤ l.foldl (fun n b => 10 * n + ((b.toNat : Int) - 48)) n from this l 0 (by omega) h
  intro l
  induction l with
  | nil => intro n hn _; exact hn
  | cons b r ih =>
    intro n hn h
    simp only [List.all_cons, Bool.and_eq_true] at h
    have := digit_bounds h.1
    exact ih _ (by show 0 ≤ 10 * n + ((b.toNat : Int) - 48); omega) h.2

theorem elemNum_neg (l : List UInt8) : (0 ≤ elemNum l) ↔ elemB l = true := by
  unfold elemNum
  cases h : elemB l with
  | false => simp
  | true =>
    simp only [if_true, iff_true]
    apply numB_nonneg
    match l, h with
    | [e, a], h => simp [elemB] at h; simp [h]
    | [e, a, b], h => simp [elemB] at h; simp [h]

end Go.Proofs.YtkciljcligohnaaDoor
