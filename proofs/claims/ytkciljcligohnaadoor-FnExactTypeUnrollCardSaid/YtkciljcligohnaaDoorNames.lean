/- Names and elements: isElement, isNamed, isParameter, isLoopName, isCall. -/
import Derived.Test.YtkciljcligohnaaDoorRead
namespace Go.Proofs.YtkciljcligohnaaDoor
open Go.RowKit
set_option linter.unusedVariables false
set_option linter.unusedSimpArgs false

def digitB (b : UInt8) : Bool := [48, 49, 50, 51, 52, 53, 54, 55, 56, 57].contains b

theorem digitB_iff (b : UInt8) : digitB b = true ↔ 48 ≤ b.toNat ∧ b.toNat ≤ 57 := by
  unfold digitB
  constructor
  · intro h
    simp only [List.contains_eq_mem, List.mem_cons, List.mem_nil_iff, or_false, decide_eq_true_eq] at h
    rcases h with h | h | h | h | h | h | h | h | h | h <;> subst h <;> decide
  · intro h
    have hb : b = UInt8.ofNat b.toNat := by simp
    rw [hb]
    obtain ⟨h1, h2⟩ := h
    generalize b.toNat = n at *
    have : n = 48 ∨ n = 49 ∨ n = 50 ∨ n = 51 ∨ n = 52 ∨ n = 53 ∨ n = 54 ∨ n = 55 ∨ n = 56 ∨ n = 57 := by omega
    rcases this with h | h | h | h | h | h | h | h | h | h <;> subst h <;> decide

theorem dropWhile_all {α : Type} {p : α → Bool} {l : List α} : l.dropWhile p = [] ↔ l.all p = true := by
  induction l with
  | nil => simp
  | cons a r ih =>
    rw [List.dropWhile_cons, List.all_cons]
    cases h : p a <;> simp [ih]

theorem trim_nil (l : List UInt8) : Lib.trimS l [48, 49, 50, 51, 52, 53, 54, 55, 56, 57] = [] ↔ l.all digitB = true := by
  unfold Lib.trimS Lib.trimLeftS Lib.trimRightS
  show List.dropWhile digitB (List.dropWhile digitB l.reverse).reverse = [] ↔ _
  rw [dropWhile_all, List.all_reverse]
  constructor
  · intro h
    have h2 : (l.reverse.dropWhile digitB).dropWhile digitB = [] := dropWhile_all.2 h
    rw [← List.all_reverse, ← dropWhile_all]
    cases hd : l.reverse.dropWhile digitB with
    | nil => rfl
    | cons a r =>
      rw [hd] at h
      have h3 : digitB a = true := by simp at h; exact h.1
      have h4 := List.head?_dropWhile_not digitB l.reverse
      rw [hd] at h4
      simp [h3] at h4
  · intro h
    have h1 : l.reverse.dropWhile digitB = [] := dropWhile_all.2 (by rw [List.all_reverse]; exact h)
    rw [h1]
    rfl

theorem trim_yes (s : ByteArray) (w : World) (hs : s.size ≤ 9223372036854775807) (h : s.data.toList.all digitB = true) :
    Calls Tryd.prog 108 #[.string s, .string ⟨#[48, 49, 50, 51, 52, 53, 54, 55, 56, 57]⟩] w fun e w' => e = .returned (.string ⟨#[]⟩) ∧ Below w.heap.size w w' :=
  (Tryd.strings_Trim_digits s w hs).mono fun e w' ⟨he, hb⟩ => ⟨by rw [he, (trim_nil _).2 h], hb⟩
theorem trim_no (s : ByteArray) (w : World) (hs : s.size ≤ 9223372036854775807) (h : s.data.toList.all digitB = false) :
    Calls Tryd.prog 108 #[.string s, .string ⟨#[48, 49, 50, 51, 52, 53, 54, 55, 56, 57]⟩] w fun e w' => ∃ x : ByteArray, e = .returned (.string x) ∧ x.toList.isEmpty = false ∧ (¬ x.toList = []) ∧ Below w.heap.size w w' :=
  (Tryd.strings_Trim_digits s w hs).mono fun e w' ⟨he, hb⟩ => by
    obtain ⟨h1, h2⟩ := nonempty_toList (s := ⟨(Lib.trimS s.data.toList [48, 49, 50, 51, 52, 53, 54, 55, 56, 57]).toArray⟩) (fun hn => by
      have := (trim_nil s.data.toList).1 (by simpa using hn)
      rw [h] at this
      cases this)
    exact ⟨_, he, h1, h2, hb⟩

/-- An element's text. -/
def elemB : List UInt8 → Bool
  | [e, a] => e == 101 && digitB a
  | [e, a, b] => e == 101 && (digitB a && digitB b) && a != 48
  | _ => false

theorem extract_tail {s : ByteArray} {b : UInt8} {r : List UInt8} (hl : s.data.toList = b :: r) : s.extract 1 s.size = St r := (cons_bytes hl).2.2.2.2

set_option maxHeartbeats 1000000 in
set_option maxRecDepth 100000 in
theorem isElement_short (s : ByteArray) (w : World) (h : s.size < 2 ∨ 3 < s.size) :
    Calls Tryd.prog 111 #[.string s] w fun e w' => e = .returned (.bool false) ∧ Below w.heap.size w w' := by
  rcases h with h | h
  · go_enter Tryd.func111, Tryd.ntmps111
    go_wp2_with fail
    go_ret
    exact ⟨rfl, Below.refl _ _⟩
  · go_enter Tryd.func111, Tryd.ntmps111
    go_wp2_with fail
    go_ret
    exact ⟨rfl, Below.refl _ _⟩

set_option maxHeartbeats 1000000 in
set_option maxRecDepth 100000 in
theorem isElement_other (s : ByteArray) (w : World) (e0 : UInt8) (r : List UInt8) (hl : s.data.toList = e0 :: r) (hr : 1 ≤ r.length) (hr2 : r.length ≤ 2) (h : e0 ≠ 101) :
    Calls Tryd.prog 111 #[.string s] w fun e w' => e = .returned (.bool false) ∧ Below w.heap.size w w' := by
  obtain ⟨h1, h2, h3, h4, h5⟩ := cons_bytes hl
  replace h4 := h4 h2
  have h6 : ((e0.toNat : Int) != 101) = true := byte_bne h
  have h7 : 2 ≤ s.size := by omega
  have h8 : s.size ≤ 3 := by omega
  clear hl h h3 h5
  go_enter Tryd.func111, Tryd.ntmps111
  go_wp2_with fail
  go_ret
  exact ⟨rfl, Below.refl _ _⟩

set_option maxHeartbeats 1000000 in
set_option maxRecDepth 100000 in
theorem isElement_e (s : ByteArray) (w : World) (r : List UInt8) (hl : s.data.toList = 101 :: r) (hr : 1 ≤ r.length) (hr2 : r.length ≤ 2) :
    Calls Tryd.prog 111 #[.string s] w fun e w' => e = .returned (.bool (elemB (101 :: r))) ∧ Below w.heap.size w w' := by
  obtain ⟨h1, h2, h3, h4, h5⟩ := cons_bytes hl
  replace h4 := h4 h2
  have h7 : 2 ≤ s.size := by omega
  have h8 : s.size ≤ 3 := by omega
  by_cases hd : r.all digitB = true
  · have hcall := fun w => trim_yes (St r) w (show r.length ≤ _ by omega) hd
    rcases r with _ | ⟨a, _ | ⟨b, _ | ⟨c, r⟩⟩⟩
    · simp at hr
    · have h9 : elemB [101, a] = true := by simpa [elemB] using hd
      have h10 : ((s.size : Int) == 2) = true := by simp [h3]
      rw [h9]
      clear hl h3 hd h9
      go_enter Tryd.func111, Tryd.ntmps111
      go_wp2_with (go_at_call 108; refine (hcall _).mono ?_; rintro e w' ⟨rfl, hb⟩)
      go_ret
      exact ⟨rfl, hb⟩
    · have h9 : elemB [101, a, b] = (a != 48) := by simp at hd; simp [elemB, hd]
      have h10 : ((s.size : Int) == 2) = false := by simp [h3]
      have h11 : ∀ h : 1 < s.size, s[1] = a := fun h => by
        have : s.data.toList[1]'(by rw [hl]; simp) = a := by simp [hl]
        exact this
      have h14 : 1 < s.size := by omega
      replace h11 := h11 h14
      rw [h9]
      clear hl h3 hd h9
      by_cases ha : a = 48
      · have h12 : ((a.toNat : Int) != 48) = false := byte_beq ha
        have h13 : (a != 48) = false := by simp [ha]
        rw [h13]
        clear ha h13
        go_enter Tryd.func111, Tryd.ntmps111
        go_wp2_with (go_at_call 108; refine (hcall _).mono ?_; rintro e w' ⟨rfl, hb⟩)
        go_ret
        exact ⟨rfl, hb⟩
      · have h12 : ((a.toNat : Int) != 48) = true := byte_bne ha
        have h13 : (a != 48) = true := by simp [ha]
        rw [h13]
        clear ha h13
        go_enter Tryd.func111, Tryd.ntmps111
        go_wp2_with (go_at_call 108; refine (hcall _).mono ?_; rintro e w' ⟨rfl, hb⟩)
        go_ret
        exact ⟨rfl, hb⟩
    · simp at hr2
  · have hd : r.all digitB = false := by simpa using hd
    have hcall := fun w => trim_no (St r) w (show r.length ≤ _ by omega) hd
    have h9 : elemB (101 :: r) = false := by
      rcases r with _ | ⟨a, _ | ⟨b, _ | ⟨c, r⟩⟩⟩
      · rfl
      · simpa [elemB] using hd
      · have : (digitB a && digitB b) = false := by simpa using hd
        simp only [elemB, this, Bool.and_false, Bool.false_and]
      · rfl
    rw [h9]
    clear hl h3 hd h9
    go_enter Tryd.func111, Tryd.ntmps111
    go_wp2_with (go_at_call 108; refine (hcall _).mono ?_; rintro e w' ⟨x, rfl, hx1, hx2, hb⟩)
    go_ret
    exact ⟨rfl, hb⟩

theorem isElement_any (s : ByteArray) (w : World) :
    Calls Tryd.prog 111 #[.string s] w fun e w' => e = .returned (.bool (elemB s.data.toList)) ∧ Below w.heap.size w w' := by
  have hsz := size_list s
  match hl : s.data.toList with
  | [] => exact isElement_short s w (.inl (by rw [← hsz, hl]; simp))
  | [a] => exact isElement_short s w (.inl (by rw [← hsz, hl]; simp))
  | e0 :: a :: b :: c :: r => exact isElement_short s w (.inr (by rw [← hsz, hl]; simp))
  | [e0, a] =>
    by_cases he : e0 = 101
    · subst he; exact isElement_e s w [a] hl (by simp) (by simp)
    · exact (isElement_other s w e0 [a] hl (by simp) (by simp) he).mono fun e w' ⟨h1, h2⟩ => ⟨by rw [h1]; simp [elemB, he], h2⟩
  | [e0, a, b] =>
    by_cases he : e0 = 101
    · subst he; exact isElement_e s w [a, b] hl (by simp) (by simp)
    · exact (isElement_other s w e0 [a, b] hl (by simp) (by simp) he).mono fun e w' ⟨h1, h2⟩ => ⟨by rw [h1]; simp [elemB, he], h2⟩

/-- Some letters and then at most two digits. -/
def namedB (letters : List UInt8) : List UInt8 → Bool
  | c :: r => letters.contains c && decide (r.length ≤ 2) && r.all digitB
  | [] => false
abbrev paramB (l : List UInt8) : Bool := namedB [120, 121, 122] l
abbrev loopB (l : List UInt8) : Bool := namedB [116] l

theorem indexByte_low (l : List UInt8) (c : UInt8) : -1 ≤ Lib.indexByte l c := by
  induction l with
  | nil => simp [Lib.indexByte]
  | cons b r ih =>
    unfold Lib.indexByte
    split
    · omega
    · split <;> omega
theorem indexByte_contains (l : List UInt8) (c : UInt8) : decide (0 ≤ Lib.indexByte l c) = l.contains c := by
  induction l with
  | nil => simp [Lib.indexByte]
  | cons b r ih =>
    have hlow := indexByte_low r c
    have hu : Lib.indexByte (b :: r) c = if (b == c) = true then 0 else if (Lib.indexByte r c == -1) = true then -1 else Lib.indexByte r c + 1 := rfl
    rw [List.contains_cons, ← ih, hu]
    by_cases hb : b = c
    · subst hb; simp
    · rw [if_neg (by simpa using hb), beq_eq_false_iff_ne.2 (Ne.symm hb), Bool.false_or, decide_eq_decide]
      split
      · rename_i h; have h : Lib.indexByte r c = -1 := by simpa using h
        omega
      · rename_i h; have h : Lib.indexByte r c ≠ -1 := by simpa using h
        omega

set_option maxHeartbeats 1000000 in
set_option maxRecDepth 100000 in
theorem isNamed_any (s L : ByteArray) (w : World) (hs : s.size ≤ 9223372036854775807) :
    Calls Tryd.prog 86 #[.string s, .string L] w fun e w' => e = .returned (.bool (namedB L.data.toList s.data.toList)) ∧ Below w.heap.size w w' := by
  have hsz := size_list s
  cases hl : s.data.toList with
  | nil =>
    have h0 : s.size < 1 := by rw [← hsz, hl]; simp
    clear hs hl hsz
    go_enter Tryd.func86, Tryd.ntmps86
    go_wp2_with fail
    go_ret
    exact ⟨rfl, Below.refl _ _⟩
  | cons c r =>
    obtain ⟨h1, h2, h3, h4, h5⟩ := cons_bytes hl
    clear h1 h4
    by_cases hr : r.length ≤ 2
    · have h6 : 1 ≤ s.size := by omega
      have h7 : s.size ≤ 3 := by omega
      have h8 : s.extract 0 1 = ⟨#[c]⟩ := St_of (l := [c]) (by rw [Lib.extract_data, hl]; rfl)
      have hc := fun w => Tryd.strings_Contains_one L c w
      simp only [indexByte_contains] at hc
      cases hd : L.data.toList.contains c with
      | false =>
        have h9 : namedB L.data.toList (c :: r) = false := by simp only [namedB, hd, Bool.false_and]
        rw [h9]
        simp only [hd] at hc
        clear hs hl hsz h3 hd h5 h9
        go_enter Tryd.func86, Tryd.ntmps86
        go_wp2_with (go_at_call 107; refine (hc _).mono ?_; rintro e w' ⟨rfl, rfl⟩)
        go_ret
        exact ⟨rfl, Below.refl _ _⟩
      | true =>
        cases hdd : r.all digitB with
        | true =>
          have h9 : namedB L.data.toList (c :: r) = true := by simp only [namedB, hd, hdd, hr, decide_true, Bool.and_true]
          rw [h9]
          have hcall := fun w => trim_yes (St r) w (show r.length ≤ _ by omega) hdd
          simp only [hd] at hc
          clear hs hl hsz h3 hd hdd h9
          go_enter Tryd.func86, Tryd.ntmps86
          go_wp2_with (first | (go_at_call 107; refine (hc _).mono ?_; rintro e w' ⟨rfl, rfl⟩) | (go_at_call 108; refine (hcall _).mono ?_; rintro e w' ⟨rfl, hb⟩))
          go_ret
          exact ⟨rfl, hb⟩
        | false =>
          have h9 : namedB L.data.toList (c :: r) = false := by simp only [namedB, hdd, Bool.and_false]
          rw [h9]
          have hcall := fun w => trim_no (St r) w (show r.length ≤ _ by omega) hdd
          simp only [hd] at hc
          clear hs hl hsz h3 hd hdd h9
          go_enter Tryd.func86, Tryd.ntmps86
          go_wp2_with (first | (go_at_call 107; refine (hc _).mono ?_; rintro e w' ⟨rfl, rfl⟩) | (go_at_call 108; refine (hcall _).mono ?_; rintro e w' ⟨x, rfl, hx1, hx2, hb⟩))
          go_ret
          exact ⟨rfl, hb⟩
    · have h6 : 3 < s.size := by omega
      have h9 : namedB L.data.toList (c :: r) = false := by simp only [namedB, hr, decide_false, Bool.and_false, Bool.false_and]
      rw [h9]
      clear hs hl hsz h3 h9 h5
      go_enter Tryd.func86, Tryd.ntmps86
      go_wp2_with fail
      go_ret
      exact ⟨rfl, Below.refl _ _⟩

theorem isParameter_any (s : ByteArray) (w : World) (hs : s.size ≤ 9223372036854775807) :
    Calls Tryd.prog 52 #[.string s] w fun e w' => e = .returned (.bool (paramB s.data.toList)) ∧ Below w.heap.size w w' := by
  have hc := isNamed_any s ⟨#[120, 121, 122]⟩ w hs
  clear hs
  go_enter Tryd.func52, Tryd.ntmps52
  go_wp2_with (go_at_call 86; refine hc.mono ?_; rintro e w' ⟨rfl, hb⟩)
  go_ret
  exact ⟨rfl, hb⟩

theorem isLoopName_any (s : ByteArray) (w : World) (hs : s.size ≤ 9223372036854775807) :
    Calls Tryd.prog 53 #[.string s] w fun e w' => e = .returned (.bool (loopB s.data.toList)) ∧ Below w.heap.size w w' := by
  have hc := isNamed_any s ⟨#[116]⟩ w hs
  clear hs
  go_enter Tryd.func53, Tryd.ntmps53
  go_wp2_with (go_at_call 86; refine hc.mono ?_; rintro e w' ⟨rfl, hb⟩)
  go_ret
  exact ⟨rfl, hb⟩

/-- The first part's atom. -/
def headAtom : List Tr → List UInt8
  | .mk s _ :: _ => s
  | [] => []
/-- n parts, the first one a word. -/
def callB (ps : List Tr) (word : List UInt8) (n : Nat) : Bool := ps.length == n && headAtom ps == word

set_option maxHeartbeats 1000000 in
set_option maxRecDepth 100000 in
theorem isCall_any (s : List UInt8) (ps : List Tr) (p : Option Addr) (word : ByteArray) (n : Nat) (w : World) {ok : Nat → Prop} (h : EAt w ok (.mk s ps) p) (hn : 0 < n) (hn2 : n ≤ 3) :
    Calls Tryd.prog 102 #[.pointer p, .string word, .int .i64 n] w fun e w' => e = .returned (.bool (callB ps word.data.toList n)) ∧ w = w' := by
  obtain ⟨g, A, c, rfl, _, hb, hc, hr⟩ := h
  have c0 : w.cell? ⟨g, 0, none⟩ = some (.string (St s)) := block_cell hb 0
  have c1 : w.cell? ⟨g, 1, none⟩ = some (.slice A ps.length c) := block_cell hb 1
  by_cases hl : ps.length = n
  · cases ps with
    | nil => simp at hl; omega
    | cons t ts =>
      obtain ⟨s1, ps1⟩ := t
      obtain ⟨b, o, p1, cur, rfl, _, hb1, hc1, ht, _⟩ := hr
      obtain ⟨g1, A1, cc1, rfl, _, hb2, _, _⟩ := ht
      have d0 : w.cell? ⟨b, o, none⟩ = some (.pointer (some ⟨g1, 0, none⟩)) := (block_cell hb1 o).trans hc1
      have d1 : w.cell? ⟨g1, 0, none⟩ = some (.string (St s1)) := block_cell hb2 0
      have h9 : callB (.mk s1 ps1 :: ts) word.data.toList n = (s1 == word.data.toList) := by simp only [callB, hl, headAtom, beq_self_eq_true, Bool.true_and]
      rw [h9]
      have hl2 : (((Tr.mk s1 ps1 :: ts).length : Int) == (n : Int)) = true := by rw [hl]; simp
      have hl3 : (0 : Int) < ((Tr.mk s1 ps1 :: ts).length : Int) := by rw [hl]; omega
      generalize (Tr.mk s1 ps1 :: ts).length = L at *
      clear hl hb hb1 hb2 hc1 hc h9
      go_enter Tryd.func102, Tryd.ntmps102
      go_wp2_with fail
      go_ret
      refine ⟨congrArg (fun b => Ending.returned (.bool b)) ?_, rfl⟩
      rw [Lib.toList_data]
  · have h9 : callB ps word.data.toList n = false := by simp only [callB, hl, beq_eq_false_iff_ne.2 hl, Bool.false_and]
    rw [h9]
    have hl2 : ((ps.length : Int) == (n : Int)) = false := by rw [beq_eq_false_iff_ne]; omega
    clear hl hb hr
    go_enter Tryd.func102, Tryd.ntmps102
    go_wp2_with fail
    go_ret
    exact ⟨rfl, rfl⟩

end Go.Proofs.YtkciljcligohnaaDoor
