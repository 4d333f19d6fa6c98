/- alike, and TypeAlike. TypeAlike of both. Lists of texts in the laws: sameTexts, hasText. -/
import Derived.Test.YtofbhdgccijbgaaGreatDoorMK
import Derived.Test.YtofbhdgccijbgaaGreatDoorMF
import Derived.Test.YtofbhdgccijbgaaGreatDoorMC
namespace Go.Proofs.YtofbhdgccijbgaaGreatDoor
open Go.RowKit
set_option linter.unusedVariables false
set_option linter.unusedSimpArgs false
end Go.Proofs.YtofbhdgccijbgaaGreatDoor
namespace Go.Proofs.YtofbhdgccijbgaaGreatDoor
open Go.RowKit
set_option linter.unusedVariables false
set_option linter.unusedSimpArgs false
end Go.Proofs.YtofbhdgccijbgaaGreatDoor
namespace Go.Proofs.YtofbhdgccijbgaaGreatDoor
open Go.RowKit
set_option linter.unusedVariables false
set_option linter.unusedSimpArgs false
set_option maxHeartbeats 4000000 in
set_option maxRecDepth 100000 in
theorem sameTexts_any (xs ys : List (List UInt8)) (A B : Option Addr) (c d : Nat) (w : World) (hn : xs.length ≤ 1000000) (hx : SCells w A xs) (hy : SCells w B ys) :
    Calls Tryz.prog 41 #[.slice A xs.length c, .slice B ys.length d] w fun e w' => e = .returned (.bool (decide (xs = ys))) ∧ Below w.heap.size w w' := by
  cases hl : ((xs.length : Int) != (ys.length : Int)) with
  | true =>
    have hne : xs ≠ ys := fun h => by simp [h] at hl
    rw [decide_eq_false hne]
    clear hne hx hy
    generalize xs.length = n at *
    generalize ys.length = m at *
    go_enter Tryz.func41, Tryz.ntmps41
    go_wp2
    go_ret
    exact ⟨rfl, Below.refl _ _⟩
  | false =>
    have hlen : xs.length = ys.length := by have := hl; simp at this; omega
    generalize hb : decide (xs = ys) = b
    have HX := Lib.hid hx
    have HY := Lib.hid hy
    have HBB : Hid (∀ k, k ≤ xs.length → (xs.take k = ys.take k) → (∀ x y, xs[k]? = some x → ys[k]? = some y → x ≠ y → b = false) ∧ (xs.length ≤ k → b = true)) := fun k hk ht => by
      constructor
      · intro x y h1 h2 h3
        rw [← hb]
        apply decide_eq_false
        intro h
        rw [h, h2] at h1
        exact h3 (Option.some.inj h1).symm
      · intro h
        rw [← hb]
        apply decide_eq_true
        rw [List.take_of_length_le h, List.take_of_length_le (by omega)] at ht
        exact ht
    have HL := Lib.hid hlen
    rw [← hlen] at hl ⊢
    clear hx hy hb hlen
    generalize hN : xs.length = n at *
    have HN := Lib.hid hN
    clear hN
    go_enter Tryz.func41, Tryz.ntmps41
    go_wp2
    go_loopg [5] n (fun m v5 wr => ∃ k : Nat, v5 = .int .i64 k ∧ Hid (m + k = n ∧ xs.take k = ys.take k) ∧ Hid (Below w.heap.size w wr))
    case atStart => exact ⟨0, rfl, ⟨rfl, rfl⟩, Below.refl _ _⟩
    case round =>
      obtain ⟨k, rfl, HK, HB⟩ := hrel
      obtain ⟨hk, htk⟩ := HK.out
      cases gk with
      | zero =>
        have h1 : decide (k < n) = false := decide_eq_false (by omega)
        have hbt := (HBB.out k (by omega) htk).2 (by omega)
        subst hbt
        clear hk htk HK
        go_wp2
        go_ret
        exact ⟨rfl, HB.out⟩
      | succ m =>
        have h1 : decide (k < n) = true := decide_eq_true (by omega)
        have hkn : k < n := by omega
        have hxs : k < xs.length := by rw [HN.out]; exact hkn
        have hys : k < ys.length := by have := HL.out; omega
        obtain ⟨x, hx⟩ : ∃ x, xs[k]? = some x := ⟨_, List.getElem?_eq_getElem hxs⟩
        obtain ⟨y, hy⟩ : ∃ y, ys[k]? = some y := ⟨_, List.getElem?_eq_getElem hys⟩
        have hcx := HX.out.up HB.out
        have hcy := HY.out.up HB.out
        rcases hcx with hcx | ⟨gx, ox, rfl, hcx⟩
        · rw [hcx] at hx; cases hx
        rcases hcy with hcy | ⟨gy, oy, rfl, hcy⟩
        · rw [hcy] at hy; cases hy
        have d1 := hcx k x hx
        have d2 := hcy k y hy
        clear hcx hcy
        by_cases hxe : x = y
        case neg =>
          have hxy : (x != y) = true := St_bne hxe
          have hxy2 : (x == y) = false := St_ne hxe
          have hb := (HBB.out k (by omega) htk).1 x y hx hy hxe
          subst hb
          clear hk htk HK hxs hys hx hy
          go_wp2
          go_region
          go_wp2
          go_ret
          exact ⟨rfl, up_drew HB.out⟩
        case pos =>
          have hxy : (x != y) = false := by rw [hxe]; exact St_bne_self y
          have hxy2 : (x == y) = true := by rw [hxe]; simp
          have ht2 : xs.take (k + 1) = ys.take (k + 1) := by
            rw [List.take_add_one, List.take_add_one, htk, hx, hy, hxe]
          have HK2 : Hid (m + ((k + 1 : Nat)) = n ∧ xs.take (k + 1) = ys.take (k + 1)) := ⟨by omega, ht2⟩
          clear hk htk HK hxs hys hx hy ht2
          go_wp2
          go_region
          go_wp2
          go_roundg m
          case measure => omega
          case rel => exact ⟨k + 1, rfl, HK2, up_drew HB.out⟩
theorem sameTexts_same (xs : List (List UInt8)) (A B : Option Addr) (c d : Nat) (w : World) (hn : xs.length ≤ 1000000) (hx : SCells w A xs) (hy : SCells w B xs) :
    Calls Tryz.prog 41 #[.slice A xs.length c, .slice B xs.length d] w fun e w' => e = .returned (.bool true) ∧ Below w.heap.size w w' := by
  have := sameTexts_any xs xs A B c d w hn hx hy
  rw [decide_eq_true rfl] at this
  exact this
end Go.Proofs.YtofbhdgccijbgaaGreatDoor

