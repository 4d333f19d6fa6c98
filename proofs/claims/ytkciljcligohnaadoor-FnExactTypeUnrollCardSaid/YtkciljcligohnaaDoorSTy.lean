/- The reference's names. -/
import Derived.Test.YtkciljcligohnaaDoorSVal3
namespace Go.Proofs.YtkciljcligohnaaDoor
open Go.RowKit
set_option linter.unusedVariables false
set_option linter.unusedSimpArgs false

/-- A letter between two, then at most two digits. -/
def nameB (a b : Nat) : List UInt8 → Bool
  | c :: r => (decide (a ≤ c.toNat) && decide (c.toNat ≤ b)) && decide (r.length ≤ 2) && r.all digitB
  | [] => false

theorem nameB_param (l : List UInt8) : nameB 120 122 l = paramB l := by
  cases l with
  | nil => rfl
  | cons c r =>
    simp only [nameB, paramB, namedB]
    congr 2
    rw [Bool.eq_iff_iff]
    simp only [Bool.and_eq_true, decide_eq_true_eq, List.contains_eq_mem, List.mem_cons, List.mem_nil_iff, or_false]
    constructor
    · intro ⟨h1, h2⟩
      have : c.toNat = 120 ∨ c.toNat = 121 ∨ c.toNat = 122 := by omega
      rcases this with h | h | h
      · exact .inl (UInt8.toNat_inj.1 h)
      · exact .inr (.inl (UInt8.toNat_inj.1 h))
      · exact .inr (.inr (UInt8.toNat_inj.1 h))
    · rintro (rfl | rfl | rfl) <;> decide
theorem nameB_loop (l : List UInt8) : nameB 116 116 l = loopB l := by
  cases l with
  | nil => rfl
  | cons c r =>
    simp only [nameB, loopB, namedB]
    congr 2
    rw [Bool.eq_iff_iff]
    simp only [Bool.and_eq_true, decide_eq_true_eq, List.contains_eq_mem, List.mem_cons, List.mem_nil_iff, or_false]
    constructor
    · intro ⟨h1, h2⟩
      exact UInt8.toNat_inj.1 (by omega : c.toNat = 116)
    · rintro rfl; decide

set_option maxHeartbeats 2000000 in
set_option maxRecDepth 100000 in
theorem l1Name_any (s : ByteArray) (a b : Nat) (w : World) :
    Calls Tryd.prog 83 #[.string s, .int .u8 a, .int .u8 b] w fun e w' => e = .returned (.bool (nameB a b s.data.toList)) ∧ w = w' := by
  have hsz := size_list s
  have hc := l6In_any (s.size : Int) 1 3
  cases hl : s.data.toList with
  | nil =>
    have h0 : s.size = 0 := by rw [← hsz, hl]; rfl
    have h1 : (decide ((1 : Int) ≤ (s.size : Int)) && decide ((s.size : Int) ≤ 3)) = false := by rw [h0]; rfl
    rw [h1] at hc
    clear h1 hsz h0 hl
    go_enter Tryd.func83, Tryd.ntmps83
    go_wp2_with (go_at_call 105; refine (hc _).mono ?_; rintro e w' ⟨rfl, rfl⟩)
    go_ret
    exact ⟨rfl, rfl⟩
  | cons c r =>
    obtain ⟨_, h2, h3, h4, _⟩ := cons_bytes hl
    replace h4 := h4 h2
    by_cases hlen : r.length ≤ 2
    · have h1 : (decide ((1 : Int) ≤ (s.size : Int)) && decide ((s.size : Int) ≤ 3)) = true := by
        rw [Bool.and_eq_true, decide_eq_true_eq, decide_eq_true_eq]; omega
      rw [h1] at hc
      have hget : ∀ k (hk : k < r.length) (h : k + 1 < s.size), s[k + 1] = r[k] := fun k hk h => by
        have : s.data.toList[k + 1]'(by rw [hl]; simp; omega) = r[k] := by simp [hl]
        exact this
      have hsr : s.size = r.length + 1 := by rw [← hsz, hl]; rfl
      clear h1
      by_cases hA : a ≤ c.toNat
      · by_cases hB : c.toNat ≤ b
        · have hv : nameB a b (c :: r) = r.all digitB := by simp [nameB, hA, hB, hlen]
          rw [hv]
          generalize hbb : r.all digitB = bb
          have HBB := Lib.hid hbb
          have HGET := Lib.hid hget
          have HSR := Lib.hid hsr
          have k1 : decide (c.toNat < a) = false := decide_eq_false (by omega)
          have k2 : decide (b < c.toNat) = false := decide_eq_false (by omega)
          clear hv hbb hget hsr hA hB hl hsz h3
          go_enter Tryd.func83, Tryd.ntmps83
          go_wp2_with (go_at_call 105; refine (hc _).mono ?_; rintro e w' ⟨rfl, rfl⟩)
          go_loop [7] (fun i => ∃ k : Nat, k ≤ r.length ∧ i = .int .i64 ((k : Int) + 1) ∧ Hid ((r.take k).all digitB = true)) (fun i => r.length + 1 - (intOf i).toNat)
          case atStart => exact ⟨0, Nat.zero_le _, rfl, by simp [Hid]⟩
          case round =>
            obtain ⟨k, hk, rfl, HD⟩ := hrel
            have hs3 := HSR.out
            clear k1 k2
            by_cases hlt : k < r.length
            · have hlts : k + 1 < s.size := by omega
              have hg := HGET.out k hlt hlts
              cases hd : digitB r[k] with
              | true =>
                have hdb := digit_bounds hd
                have HT : Hid (r.take (k + 1) = r.take k ++ [r[k]]) := by
                  show r.take (k + 1) = r.take k ++ [r[k]]
                  rw [List.take_succ_eq_append_getElem hlt]
                have HDD := Lib.hid hd
                generalize hrk : r[k] = y at *
                have HRK := Lib.hid hrk
                clear hd hs3 hrk
                obtain ⟨hdb1, hdb2⟩ := hdb
                go_wp2
                go_round
                case rel => exact ⟨k + 1, by omega, by go_num, by show (r.take (k + 1)).all digitB = true; rw [HT.out, List.all_append, HD.out]; simp [HDD.out]⟩
                case measure => simp [intOf]; omega
              | false =>
                have hbad : bb = false := by
                  rw [← HBB.out]
                  cases ha : r.all digitB with
                  | false => rfl
                  | true =>
                    have := List.all_eq_true.1 ha r[k] (List.getElem_mem hlt)
                    rw [hd] at this
                    cases this
                have hdb : (r[k].toNat : Int) < 48 ∨ (57 : Int) < r[k].toNat := by
                  have := mt (digitB_iff r[k]).2 (by rw [hd]; simp)
                  omega
                subst hbad
                generalize hrk : r[k] = y at *
                have HRK := Lib.hid hrk
                clear hd hs3 hrk
                rcases hdb with hdb | hdb
                · go_wp2
                  go_ret
                  exact ⟨rfl, rfl⟩
                · have hdb2 : (48 : Int) ≤ y.toNat := by omega
                  go_wp2
                  go_ret
                  exact ⟨rfl, rfl⟩
            · have hkr : k = r.length := by omega
              have hend : bb = true := by
                have h1 := HD.out
                rw [hkr, List.take_length] at h1
                rw [← HBB.out, h1]
              subst hend
              have hge : ¬ ((k : Int) + 1 < (s.size : Int)) := by omega
              clear hkr hs3
              go_wp2
              go_ret
              exact ⟨rfl, rfl⟩
        · have hv : nameB a b (c :: r) = false := by simp [nameB, hB]
          rw [hv]
          have k1 : decide (c.toNat < a) = false := decide_eq_false (by omega)
          have k2 : decide (b < c.toNat) = true := decide_eq_true (by omega)
          clear hv hget hsr hA hB hl hsz h3
          go_enter Tryd.func83, Tryd.ntmps83
          go_wp2_with (go_at_call 105; refine (hc _).mono ?_; rintro e w' ⟨rfl, rfl⟩)
          go_ret
          exact ⟨rfl, rfl⟩
      · have hv : nameB a b (c :: r) = false := by simp [nameB, hA]
        rw [hv]
        have k1 : decide (c.toNat < a) = true := decide_eq_true (by omega)
        clear hv hget hsr hA hl hsz h3
        go_enter Tryd.func83, Tryd.ntmps83
        go_wp2_with (go_at_call 105; refine (hc _).mono ?_; rintro e w' ⟨rfl, rfl⟩)
        go_ret
        exact ⟨rfl, rfl⟩
    · have hv : nameB a b (c :: r) = false := by simp [nameB, hlen]
      rw [hv]
      have hsr : s.size = r.length + 1 := by rw [← hsz, hl]; rfl
      have h1 : (decide ((1 : Int) ≤ (s.size : Int)) && decide ((s.size : Int) ≤ 3)) = false := by
        rw [Bool.and_eq_false_iff]; right; exact decide_eq_false (by omega)
      rw [h1] at hc
      clear hv hsr hl hsz h1 h3 h4
      go_enter Tryd.func83, Tryd.ntmps83
      go_wp2_with (go_at_call 105; refine (hc _).mono ?_; rintro e w' ⟨rfl, rfl⟩)
      go_ret
      exact ⟨rfl, rfl⟩

theorem l1Param_any (s : ByteArray) (w : World) : Calls Tryd.prog 48 #[.string s] w fun e w' => e = .returned (.bool (paramB s.data.toList)) ∧ w = w' := by
  have hc := fun w => l1Name_any s 120 122 w
  rw [nameB_param] at hc
  generalize paramB s.data.toList = b at *
  have hc' : ∀ w, Calls Tryd.prog 83 #[.string s, .int .u8 120, .int .u8 122] w fun e w' => e = .returned (.bool b) ∧ w = w' := hc
  clear hc
  go_enter Tryd.func48, Tryd.ntmps48
  go_wp2_with (go_at_call 83; refine (hc' _).mono ?_; rintro e w' ⟨rfl, rfl⟩)
  go_ret
  exact ⟨rfl, rfl⟩

theorem l1Loop_any (s : ByteArray) (w : World) : Calls Tryd.prog 49 #[.string s] w fun e w' => e = .returned (.bool (loopB s.data.toList)) ∧ w = w' := by
  have hc := fun w => l1Name_any s 116 116 w
  rw [nameB_loop] at hc
  generalize loopB s.data.toList = b at *
  have hc' : ∀ w, Calls Tryd.prog 83 #[.string s, .int .u8 116, .int .u8 116] w fun e w' => e = .returned (.bool b) ∧ w = w' := hc
  clear hc
  go_enter Tryd.func49, Tryd.ntmps49
  go_wp2_with (go_at_call 83; refine (hc' _).mono ?_; rintro e w' ⟨rfl, rfl⟩)
  go_ret
  exact ⟨rfl, rfl⟩

end Go.Proofs.YtkciljcligohnaaDoor
