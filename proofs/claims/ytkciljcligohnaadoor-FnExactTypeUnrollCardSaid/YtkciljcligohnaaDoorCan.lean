/- The program's canon: the names that its closure gives. -/
import Derived.Test.YtkciljcligohnaaDoorCanP
import Derived.Test.YtkciljcligohnaaDoorDec
import Derived.Lib.AppendIntMem
import Derived.Lib.LaidTab
namespace Go.Proofs.YtkciljcligohnaaDoor
open Go.RowKit
set_option linter.unusedVariables false
set_option linter.unusedSimpArgs false

theorem contains_any (ls : List (List UInt8)) (A : Option Addr) (c : Nat) (s : List UInt8) (w : World) (hl : ls.length ≤ 1000000) (h : SCells w A ls) :
    Calls Tryd.prog 92 #[.slice A ls.length c, .string (St s)] w fun e w' => e = .returned (.bool (decide (s ∈ ls))) ∧ w' = w := by
  rcases h with rfl | ⟨g, o, rfl, h⟩
  · refine (Tryd.slices_Contains_string_empty A c (St s) w).mono ?_
    rintro e w' ⟨he, hw⟩
    exact ⟨by rw [he]; simp, hw⟩
  · refine (Tryd.slices_Contains_string g o ls.length c (ls.map St) (St s) w (by simp) (by omega) (fun j hj => ?_)).mono ?_
    · have hj' : j < ls.length := by simpa using hj
      rw [h j ls[j] (List.getElem?_eq_getElem hj')]
      simp [List.getD, hj']
    · rintro e w' ⟨he, hw⟩
      refine ⟨?_, hw⟩
      rw [he]
      congr 2
      rw [Bool.eq_iff_iff, Lib.containsS_iff, decide_eq_true_iff]
      rw [List.take_of_length_le (by simp)]
      constructor
      · intro h
        obtain ⟨x, hx, hxe⟩ := List.mem_map.1 h
        rwa [← St_inj.1 hxe]
      · intro h
        exact List.mem_map.2 ⟨s, h, rfl⟩

theorem decDigits_decL (n : Nat) : Lib.decDigits n = decL n := by
  induction n using Nat.strongRecOn with
  | ind n ih =>
    rw [Lib.decDigits, decL]
    by_cases h : n < 10
    · rw [dif_pos h, if_pos h]
    · rw [dif_neg h, if_neg h, ih (n / 10) (by omega)]
theorem itoa_decL (n : Nat) : Lib.itoa (n : Int) = decL n := by
  unfold Lib.itoa
  rw [if_neg (by omega), ← decDigits_decL]
  rfl
abbrev TabB (B : Nat) (w : World) : Prop := Lib.TabBelow Tryd.prog B w "internal/strconv.uint64pow10" .u64 Lib.pow10Tab
theorem TabB.below {B : Nat} {w w1 : World} (h : TabB B w) (hb : Below B w w1) : TabB B w1 := fun w2 hb2 => h w2 (hb.trans hb2)
theorem itoa_any (k B : Nat) (hk : k ≤ 100000000) (w : World) (h : TabB B w) :
    Calls Tryd.prog 104 #[.int .i64 k] w fun e w' => e = .returned (.string (St (decL k))) ∧ Below w.heap.size w w' := by
  refine (Tryd.strconv_Itoa k (by omega) (by omega) w h.here).mono ?_
  rintro e w' ⟨he, n, os, rfl⟩
  rw [itoa_decL] at he
  refine ⟨he, rfl, rfl, rfl, ?_, fun j hj => ?_⟩
  · show w.heap.size ≤ (w.heap ++ os).size
    simp
  · show (w.heap ++ os)[j]? = w.heap[j]?
    rw [Array.getElem?_append_left hj]

/-- The world in which canon's closure runs: its own variable, the free names, the next number, strconv's table. -/
structure CN (w : World) (B bw bf bn : Nat) (F : Option Addr) (cF : Nat) (fs : List (List UInt8)) (k : Nat) : Prop where
  hw : w.heap[bw]? = some (.cells #[.func (.func 103) #[] #[.pointer (some ⟨bw, 0, none⟩), .pointer (some ⟨bf, 0, none⟩), .pointer (some ⟨bn, 0, none⟩)]] 104 (0, 0))
  hf : w.heap[bf]? = some (.cells #[.slice F fs.length cF] 33 (0, 0))
  hn : w.heap[bn]? = some (.cells #[.int .i64 k] 3 (0, 0))
  hF : SFar w F bn fs
  tab : TabB B w
  le : B ≤ bn
  ne1 : bw ≠ bn
  ne2 : bf ≠ bn
theorem CN.grown {w w1 : World} {B bw bf bn : Nat} {F : Option Addr} {cF : Nat} {fs : List (List UInt8)} {k k1 : Nat} (h : CN w B bw bf bn F cF fs k) (hg : w.grownBy w1 (some bn)) (hn : w1.heap[bn]? = some (.cells #[.int .i64 k1] 3 (0, 0))) : CN w1 B bw bf bn F cF fs k1 where
  hw := (hg.block bw (lt_of_block h.hw) (by simp; exact h.ne1)).trans h.hw
  hf := (hg.block bf (lt_of_block h.hf) (by simp; exact h.ne2)).trans h.hf
  hn := hn
  hF := h.hF.grown hg (.inl rfl)
  tab := h.tab.below ((Below.refl B w).grown hg (by have := lt_of_block h.hn; have := h.le; omega) (fun k hk => by cases hk; exact h.le))
  le := h.le
  ne1 := h.ne1
  ne2 := h.ne2
theorem CN.up {w w1 : World} {B bw bf bn : Nat} {F : Option Addr} {cF : Nat} {fs : List (List UInt8)} {k : Nat} (h : CN w B bw bf bn F cF fs k) (hb : Below w.heap.size w w1) : CN w1 B bw bf bn F cF fs k :=
  h.grown (below_grow hb) (block_up hb h.hn)
theorem CN.keeps {w w1 : World} {B bw bf bn : Nat} {F : Option Addr} {cF : Nat} {fs : List (List UInt8)} {k : Nat} (h : CN w B bw bf bn F cF fs k) (hg : w.grownBy w1 (some bn)) : Keeps 56 w w1 := fun j cs fr hj => by
  rw [hg.block j (lt_of_block hj) (by
    simp
    rintro rfl
    rw [h.hn] at hj
    simp at hj), hj]
theorem block_set {w : World} {b : Nat} {cs : Array Value} {t : TypeId} {fr : Nat × Nat} (h : w.heap[b]? = some (.cells cs t fr)) (i : Nat) (v : Value) : (w.setCell ⟨b, i, none⟩ v).heap[b]? = some (.cells (cs.setIfInBounds i v) t fr) := by
  simp only [World.setCell]
  rw [Array.getElem?_modify]
  simp [h]
theorem CN.next {w : World} {B bw bf bn : Nat} {F : Option Addr} {cF : Nat} {fs : List (List UInt8)} {k : Nat} (h : CN w B bw bf bn F cF fs k) : CN (w.setCell ⟨bn, 0, none⟩ (.int .i64 ((k : Int) + 1))) B bw bf bn F cF fs (k + 1) ∧ w.grownBy (w.setCell ⟨bn, 0, none⟩ (.int .i64 ((k : Int) + 1))) (some bn) := by
  have hg : w.grownBy (w.setCell ⟨bn, 0, none⟩ (.int .i64 ((k : Int) + 1))) (some bn) := ⟨rfl, rfl, rfl, by simp [World.setCell], fun j hj hne => Below.heap_setCell w ⟨bn, 0, none⟩ _ j (by simpa using hne)⟩
  refine ⟨h.grown hg ?_, hg⟩
  exact block_set h.hn 0 _

/-- Free names are short. -/
def Ty.nmle : Ty → Prop
  | .name s => s.length ≤ 10
  | .sum a b => a.nmle ∧ b.nmle
  | .prod a b => a.nmle ∧ b.nmle
  | .loop a => a.nmle
  | _ => True
theorem tN_len10 (j : Nat) (h : j < 100000000) : (tN j).length ≤ 10 := (tN_ok j h).2.2.2.2
theorem cw_len (fs : List (List UInt8)) : ∀ (t : Ty) (ar : List (List UInt8)) (k : Nat), t.nmle → (∀ s ∈ ar, s.length ≤ 10) → k + t.atoms * (fs.length + 1) ≤ 10000000 →
    (t.cw fs ar k).1.length ≤ 12 * t.atoms ∧ k ≤ (t.cw fs ar k).2 ∧ (t.cw fs ar k).2 ≤ k + t.atoms * (fs.length + 1)
  | .zero, _, k, _, _, _ => ⟨by simp [Ty.cw, Ty.atoms], Nat.le_refl _, by simp [Ty.cw]⟩
  | .one, _, k, _, _, _ => ⟨by simp [Ty.cw, Ty.atoms], Nat.le_refl _, by simp [Ty.cw]⟩
  | .name s, _, k, h, _, _ => ⟨by simp only [Ty.cw, Ty.atoms]; have : s.length ≤ 10 := h; omega, Nat.le_refl _, by simp [Ty.cw]⟩
  | .bound i, ar, k, _, h, _ => ⟨by
      simp only [Ty.cw, Ty.atoms]
      cases hi : ar[i]? with
      | none => simp
      | some s => have := h s (List.mem_of_getElem? hi); simp; omega, Nat.le_refl _, by simp [Ty.cw]⟩
  | .sum a b, ar, k, h, har, hk => by
    simp only [Ty.atoms, Nat.add_mul] at hk ⊢
    obtain ⟨h1, h2, h3⟩ := cw_len fs a ar k h.1 har (by omega)
    obtain ⟨h4, h5, h6⟩ := cw_len fs b ar (a.cw fs ar k).2 h.2 har (by omega)
    simp only [Ty.cw, List.length_append, List.length_cons, List.length_nil]
    refine ⟨by omega, by omega, by omega⟩
  | .prod a b, ar, k, h, har, hk => by
    simp only [Ty.atoms, Nat.add_mul] at hk ⊢
    obtain ⟨h1, h2, h3⟩ := cw_len fs a ar k h.1 har (by omega)
    obtain ⟨h4, h5, h6⟩ := cw_len fs b ar (a.cw fs ar k).2 h.2 har (by omega)
    simp only [Ty.cw, List.length_append, List.length_cons, List.length_nil]
    refine ⟨by omega, by omega, by omega⟩
  | .loop a, ar, k, h, har, hk => by
    simp only [Ty.atoms, Nat.add_mul] at hk ⊢
    have hf := fresh_le fs fs.length k
    have hfr : k ≤ freshN fs k ∧ freshN fs k ≤ k + fs.length := hf
    have htn := tN_len10 (freshN fs k) (by omega)
    obtain ⟨h1, h2, h3⟩ := cw_len fs a (tN (freshN fs k) :: ar) (freshN fs k + 1) h (by
      intro s hs
      rcases List.mem_cons.1 hs with rfl | hs
      · exact htn
      · exact har s hs) (by omega)
    simp only [Ty.cw, List.length_append, List.length_cons, List.length_nil]
    refine ⟨by omega, by omega, by omega⟩

/-- What the closure does. -/
def CPost (w : World) (B bw bf bn : Nat) (F : Option Addr) (cF : Nat) (fs : List (List UInt8)) (r : List UInt8 × Nat) (e : Ending) (w' : World) : Prop :=
  e = .returned (.string (St r.1)) ∧ CN w' B bw bf bn F cF fs r.2 ∧ w.grownBy w' (some bn)
def LC (fs : List (List UInt8)) (t : Ty) : Prop := ∀ (w : World) (p A : Option Addr) (c : Nat) (ar : List (List UInt8)) (B bw bf bn : Nat) (F : Option Addr) (cF k : Nat),
  TyAt w t p → CN w B bw bf bn F cF fs k → SFar w A bn ar.reverse → t.scoped ar.length → ar.length + t.atoms ≤ 2000 → k + t.atoms * (fs.length + 1) ≤ 10000000 → t.nmle → (∀ s ∈ ar, s.length ≤ 10) →
  Calls Tryd.prog 103 #[.pointer p, .slice A ar.length c, .pointer (some ⟨bw, 0, none⟩), .pointer (some ⟨bf, 0, none⟩), .pointer (some ⟨bn, 0, none⟩)] w (CPost w B bw bf bn F cF fs (t.cw fs ar k))

set_option maxHeartbeats 4000000 in
set_option maxRecDepth 100000 in
theorem canW_digit (fs : List (List UInt8)) (z : Int) (hz : z = 48 ∨ z = 49) (w : World) (p A : Option Addr) (m c : Nat) (B bw bf bn : Nat) (F : Option Addr) (cF k : Nat) (hp : TyN w p z [] 0 none none) (h : CN w B bw bf bn F cF fs k) :
    Calls Tryd.prog 103 #[.pointer p, .slice A m c, .pointer (some ⟨bw, 0, none⟩), .pointer (some ⟨bf, 0, none⟩), .pointer (some ⟨bn, 0, none⟩)] w (CPost w B bw bf bn F cF fs ([UInt8.ofNat z.toNat], k)) := by
  obtain ⟨g, rfl, hb⟩ := hp
  have e0 : w.cell? ⟨g, 0, none⟩ = some (.int .u8 z) := block_cell hb 0
  have H := Lib.hid h
  clear h hb
  have kc : ∀ (W : World) (z : Int), (convert 27 9 (.slice (some ⟨W.heap.size, 0, none⟩) 1 1)).run Tryd.prog (W.alloc (.cells #[.int .u8 z] 5)) = .ok (.string (strOfNums [z])) (W.alloc (.cells #[.int .u8 z] 5)) := fun W z =>
    run_convert_bytes_arg (P := Tryd.prog) _ 27 5 Tryd.underlying27 Tryd.underlying5 W.heap.size 0 1 1 [_] rfl (fun i hi => by
      obtain rfl : i = 0 := by omega
      exact block_cell (block_new W _) 0) 9 Tryd.underlying9
  rcases hz with rfl | rfl
  · go_enter Tryd.func103, Tryd.ntmps103
    go_wp2
    go_ret
    exact ⟨rfl, H.out.up (up1 w _), below_grow (up1 w _)⟩
  · go_enter Tryd.func103, Tryd.ntmps103
    go_wp2
    go_ret
    exact ⟨rfl, H.out.up (up1 w _), below_grow (up1 w _)⟩

set_option maxHeartbeats 4000000 in
set_option maxRecDepth 100000 in
theorem canW_name (fs : List (List UInt8)) (s : List UInt8) : LC fs (.name s) := by
  intro w p A c ar B bw bf bn F cF k hp h hA hsc h1 h2 hnm har
  obtain ⟨g, rfl, hb⟩ := hp
  have e0 : w.cell? ⟨g, 0, none⟩ = some (.int .u8 110) := block_cell hb 0
  have e1 : w.cell? ⟨g, 1, none⟩ = some (.string (St s)) := block_cell hb 1
  have H := Lib.hid h
  clear h hb hA hsc h1 h2 hnm har
  go_enter Tryd.func103, Tryd.ntmps103
  go_wp2
  go_ret
  exact ⟨rfl, H.out, below_grow (Below.refl _ _)⟩

set_option maxHeartbeats 4000000 in
set_option maxRecDepth 100000 in
theorem canW_bound (fs : List (List UInt8)) (i : Nat) : LC fs (.bound i) := by
  intro w p A c ar B bw bf bn F cF k hp h hA hsc h1 h2 hnm har
  have hsc : i < ar.length := hsc
  obtain ⟨g, rfl, hb⟩ := hp
  have e0 : w.cell? ⟨g, 0, none⟩ = some (.int .u8 98) := block_cell hb 0
  have e2 : w.cell? ⟨g, 2, none⟩ = some (.int .i64 i) := block_cell hb 2
  have hget : ar.reverse[ar.length - 1 - i]? = some ar[i] := by
    rw [List.getElem?_reverse (by omega), List.getElem?_eq_getElem (by omega)]
    congr 2
    omega
  rcases hA with hA | ⟨b, o, rfl, _, _, hA⟩
  · rw [hA] at hget
    simp at hget
  have hc := hA _ _ hget
  have hres : (Ty.cw fs (.bound i) ar k) = (ar[i], k) := by simp [Ty.cw, hsc]
  rw [hres]
  simp only [Ty.atoms] at h1
  have hw1 : IntKind.i64.wrap ((ar.length : Int) - 1) = (ar.length : Int) - 1 := by rw [IntKind.wrap_i64]; omega
  have hw2 : IntKind.i64.wrap ((ar.length : Int) - 1 - (i : Int)) = ((ar.length - 1 - i : Nat) : Int) := by rw [IntKind.wrap_i64]; omega
  have hlt : ar.length - 1 - i < ar.length := by omega
  have H := Lib.hid h
  clear h hb hA hget hres h2 h1 hnm har
  generalize ar[i] = x at *
  generalize ar.length - 1 - i = j at *
  clear hsc
  generalize ar.length = m at *
  go_enter Tryd.func103, Tryd.ntmps103
  go_wp2
  go_ret
  exact ⟨rfl, H.out, below_grow (Below.refl _ _)⟩

theorem wpAnyH_mono {P : Program} {md : Region.Mode} {ops : Array Oper} {Q : Exit → Act → World → Prop} {S S' : World → Prop} (h : ∀ w, S' w → S w) : ∀ (fuel : Nat) (listed : Array Bool) (a : Act) (w : World), wpAnyH P md ops Q S' fuel listed a w → wpAnyH P md ops Q S fuel listed a w
  | 0, _, _, _, hh => hh
  | fuel + 1, _, _, _, hh => ⟨hh.1, fun i hi => wpOp_mono (fun a' w' h' => ⟨h _ h'.1, wpAnyH_mono h fuel _ a' w' h'.2⟩) (hh.2 i hi)⟩
/-- More is held from here on. -/
theorem wpAnyH_more {P : Program} {md : Region.Mode} {ops : Array Oper} {Q : Exit → Act → World → Prop} {S : World → Prop} {C : World → Prop} {fuel : Nat} {listed : Array Bool} {a : Act} {w : World} (hS : S w) (hC : C w)
    (h : (S w ∧ C w) → wpAnyH P md ops Q (fun W => S W ∧ C W) fuel listed a w) : wpAnyH P md ops Q S fuel listed a w := wpAnyH_mono (fun _ h => h.1) _ _ _ _ (h ⟨hS, hC⟩)

set_option maxHeartbeats 4000000 in
set_option maxRecDepth 100000 in
theorem canW_two (fs : List (List UInt8)) (sg : Int) (hsg : sg = 43 ∨ sg = 42) (w : World) (g : Nat) (pa pb A : Option Addr) (m c : Nat) (B bw bf bn : Nat) (F : Option Addr) (cF k k1 k2 : Nat) (ra rb : List UInt8) (hra : ra.length ≤ 1000000) (hrb : rb.length ≤ 1000000)
    (hb : w.heap[g]? = some (.cells #[.int .u8 sg, .string (St []), .int .i64 0, .pointer pa, .pointer pb] 56 (0, 0))) (h : CN w B bw bf bn F cF fs k)
    (iha : ∀ w1 : World, Below w.heap.size w w1 → Calls Tryd.prog 103 #[.pointer pa, .slice A m c, .pointer (some ⟨bw, 0, none⟩), .pointer (some ⟨bf, 0, none⟩), .pointer (some ⟨bn, 0, none⟩)] w1 (CPost w1 B bw bf bn F cF fs (ra, k1)))
    (ihb : ∀ w1 : World, CN w1 B bw bf bn F cF fs k1 → w.grownBy w1 (some bn) → Calls Tryd.prog 103 #[.pointer pb, .slice A m c, .pointer (some ⟨bw, 0, none⟩), .pointer (some ⟨bf, 0, none⟩), .pointer (some ⟨bn, 0, none⟩)] w1 (CPost w1 B bw bf bn F cF fs (rb, k2))) :
    Calls Tryd.prog 103 #[.pointer (some ⟨g, 0, none⟩), .slice A m c, .pointer (some ⟨bw, 0, none⟩), .pointer (some ⟨bf, 0, none⟩), .pointer (some ⟨bn, 0, none⟩)] w (CPost w B bw bf bn F cF fs ([40, UInt8.ofNat sg.toNat, 32] ++ ra ++ [32] ++ rb ++ [41], k2)) := by
  have IHA := Lib.hid iha
  have IHB := Lib.hid ihb
  have H := Lib.hid h
  have HC : Hid (∀ w1, w.grownBy w1 (some bn) → w1.cell? ⟨g, 0, none⟩ = some (.int .u8 sg) ∧ w1.cell? ⟨g, 3, none⟩ = some (.pointer pa) ∧ w1.cell? ⟨g, 4, none⟩ = some (.pointer pb)) := fun w1 hg => by
    have := h.keeps hg _ _ _ hb
    exact ⟨block_cell this 0, block_cell this 3, block_cell this 4⟩
  have HF : Hid (∀ (w1 : World) k, CN w1 B bw bf bn F cF fs k → w1.cell? ⟨bw, 0, none⟩ = some (.func (.func 103) #[] #[.pointer (some ⟨bw, 0, none⟩), .pointer (some ⟨bf, 0, none⟩), .pointer (some ⟨bn, 0, none⟩)])) := fun w1 k h => block_cell h.hw 0
  obtain ⟨c0, c3, c4⟩ := HC.out w (World.grownBy.refl _ _)
  have cw := HF.out w k h
  have hsz : ∀ z, (strOfNums [z]).size = 1 := fun z => strOfNums_size _
  have kc : ∀ (W : World) (g : Nat) (z : Int), W.cell? ⟨g, 0, none⟩ = some (.int .u8 z) → (convert 27 9 (.slice (some ⟨g, 0, none⟩) 1 1)).run Tryd.prog W = .ok (.string (strOfNums [z])) W := fun W g z hc =>
    run_convert_bytes_arg (P := Tryd.prog) _ 27 5 Tryd.underlying27 Tryd.underlying5 g 0 1 1 [_] rfl (fun i hi => by
      obtain rfl : i = 0 := by omega
      exact hc) 9 Tryd.underlying9
  have kd : ∀ (W : World) (z : Int), (convert 27 9 (.slice (some ⟨W.heap.size, 0, none⟩) 1 1)).run Tryd.prog (W.alloc (.cells #[.int .u8 z] 5)) = .ok (.string (strOfNums [z])) (W.alloc (.cells #[.int .u8 z] 5)) := fun W z => kc _ _ _ (block_cell (block_new W _) 0)
  have ke : ∀ (W : World) (z : Int), (convert 27 9 (.slice (some ⟨W.heap.size, 0, none⟩) 1 1)).run Tryd.prog (W.alloc (.cells #[.int .u8 z] 5)).drew = .ok (.string (strOfNums [z])) (W.alloc (.cells #[.int .u8 z] 5)).drew := fun W z => kc _ _ _ (block_cell (block_new W _) 0)
  obtain ⟨res, hres⟩ : ∃ res, res = ([40, UInt8.ofNat sg.toNat, 32] ++ ra ++ [32] ++ rb ++ [41]) := ⟨_, rfl⟩
  rw [← hres]
  have HST : Hid ((⟨#[40]⟩ : ByteArray) ++ strOfNums [sg] ++ ⟨#[32]⟩ ++ St ra ++ ⟨#[32]⟩ ++ St rb ++ ⟨#[41]⟩ = St res) := by
    show _ = _
    rw [hres]
    rcases hsg with rfl | rfl <;> (apply ByteArray.ext; simp [ByteArray.data_append, strOfNums])
  have q1 : ¬ 9223372036854775807 < 3 + ra.length := by omega
  have q2 : ¬ 9223372036854775807 < 3 + ra.length + 1 := by omega
  have q3 : ¬ 9223372036854775807 < 3 + ra.length + 1 + rb.length := by omega
  have q4 : ¬ 9223372036854775807 < 3 + ra.length + 1 + rb.length + 1 := by omega
  clear iha ihb h hb hra hrb hres
  rcases hsg with rfl | rfl
  · go_enter Tryd.func103, Tryd.ntmps103
    go_wp2
    go_region_held3 (fun w' => w'.cell? ⟨g, 0, none⟩ = some (.int .u8 43) ∧ w'.cell? ⟨g, 3, none⟩ = some (.pointer pa) ∧ w'.cell? ⟨g, 4, none⟩ = some (.pointer pb) ∧ w'.cell? ⟨bw, 0, none⟩ = some (.func (.func 103) #[] #[.pointer (some ⟨bw, 0, none⟩), .pointer (some ⟨bf, 0, none⟩), .pointer (some ⟨bn, 0, none⟩)]))
      (first | exact ⟨d0, d3, d4, dw⟩ | exact ⟨c0, c3, c4, cw⟩ | go_keep)
      ((go_at_call 103; refine (IHA.out _ (by first | exact Below.refl _ _ | exact up_drew (Below.refl _ _))).mono ?_; rintro e w2 ⟨rfl, hcn, hg⟩; have HN2 := Lib.hid hcn; have HG2 : Hid (w.grownBy w2 (some bn)) := (by first | exact hg | exact up_grow (up_drew (Below.refl _ _)) hg); obtain ⟨d0, d3, d4⟩ := HC.out w2 HG2.out; have dw := HF.out w2 _ HN2.out; have lg2 := World.block_lt_of_cell? w2 _ d0; have lw2 := World.block_lt_of_cell? w2 _ dw; clear hcn hg))
    all_goals go_wp2
    refine wp_region_noPanic ?_
    refine wp_region_held_drew (S := (fun w' => w'.cell? ⟨g, 0, none⟩ = some (.int .u8 43) ∧ w'.cell? ⟨g, 4, none⟩ = some (.pointer pb) ∧ w'.cell? ⟨bw, 0, none⟩ = some (.func (.func 103) #[] #[.pointer (some ⟨bw, 0, none⟩), .pointer (some ⟨bf, 0, none⟩), .pointer (some ⟨bn, 0, none⟩)]))) (by kernel_rfl) (by exact ⟨d0, d4, dw⟩) (fun hHeld => ?_)
    refine wpAnyH_take (i := 0) (v := ?_) rfl (by kernel_rfl) (by kernel_rfl) (by kernel_rfl) (fun _ _ _ h => h) (Or.inl ⟨by rfl, ?_⟩) (by assumption) ?_
    rotate_left
    · intro W hSW; (try dsimp only at hSW); go_simp; try with_reducible rfl
    try simp only [Act.put, List.setIfInBounds_toArray, List.set_cons_zero, List.set_cons_succ, List.getElem_toArray, List.getElem_cons_zero, List.getElem_cons_succ]
    refine wpAnyH_take (i := 1) (v := ?_) rfl (by kernel_rfl) (by kernel_rfl) (by kernel_rfl) (fun _ _ _ h => h) (Or.inl ⟨by rfl, ?_⟩) (by assumption) ?_
    rotate_left
    · intro W hSW; (try dsimp only at hSW); go_simp; try with_reducible rfl
    try simp only [Act.put, List.setIfInBounds_toArray, List.set_cons_zero, List.set_cons_succ, List.getElem_toArray, List.getElem_cons_zero, List.getElem_cons_succ]
    refine wpAnyH_take (i := 2) (v := ?_) rfl (by kernel_rfl) (by kernel_rfl) (by kernel_rfl) (fun _ _ _ h => h) (Or.inl ⟨by rfl, ?_⟩) (by assumption) ?_
    rotate_left
    · intro W hSW; (try dsimp only at hSW); go_simp; try with_reducible rfl
    try simp only [Act.put, List.setIfInBounds_toArray, List.set_cons_zero, List.set_cons_succ, List.getElem_toArray, List.getElem_cons_zero, List.getElem_cons_succ]
    refine wpAnyH_take (i := 3) (v := ?_) rfl (by kernel_rfl) (by kernel_rfl) (by kernel_rfl) (fun _ _ _ h => h) (Or.inl ⟨by rfl, ?_⟩) (by assumption) ?_
    rotate_left
    · intro W hSW; (try dsimp only at hSW); go_simp; try with_reducible rfl
    try simp only [Act.put, List.setIfInBounds_toArray, List.set_cons_zero, List.set_cons_succ, List.getElem_toArray, List.getElem_cons_zero, List.getElem_cons_succ]
    refine wpAnyH_take (i := 8) (v := ?_) rfl (by kernel_rfl) (by kernel_rfl) (by kernel_rfl) (fun _ _ _ h => h) (Or.inl ⟨by rfl, ?_⟩) (by assumption) ?_
    rotate_left
    · intro W hSW; (try dsimp only at hSW); go_simp; try with_reducible rfl
    try simp only [Act.put, List.setIfInBounds_toArray, List.set_cons_zero, List.set_cons_succ, List.getElem_toArray, List.getElem_cons_zero, List.getElem_cons_succ]
    refine wpAnyH_take (i := 11) (v := ?_) rfl (by kernel_rfl) (by kernel_rfl) (by kernel_rfl) (fun _ _ _ h => h) (Or.inl ⟨by rfl, ?_⟩) (by assumption) ?_
    rotate_left
    · intro W hSW; (try dsimp only at hSW); go_simp; try with_reducible rfl
    try simp only [Act.put, List.setIfInBounds_toArray, List.set_cons_zero, List.set_cons_succ, List.getElem_toArray, List.getElem_cons_zero, List.getElem_cons_succ]
    refine wpAnyH_take (i := 12) (v := ?_) rfl (by kernel_rfl) (by kernel_rfl) (by kernel_rfl) (fun _ _ _ h => h) (Or.inl ⟨by rfl, ?_⟩) (by assumption) ?_
    rotate_left
    · intro W hSW; (try dsimp only at hSW); go_simp; try with_reducible rfl
    try simp only [Act.put, List.setIfInBounds_toArray, List.set_cons_zero, List.set_cons_succ, List.getElem_toArray, List.getElem_cons_zero, List.getElem_cons_succ]
    refine wpAnyH_take (i := 13) (v := ?_) rfl (by kernel_rfl) (by kernel_rfl) (by kernel_rfl) (fun _ _ _ h => h) (Or.inl ⟨by rfl, ?_⟩) (by assumption) ?_
    rotate_left
    · intro W hSW; (try dsimp only at hSW); go_simp; try with_reducible rfl
    try simp only [Act.put, List.setIfInBounds_toArray, List.set_cons_zero, List.set_cons_succ, List.getElem_toArray, List.getElem_cons_zero, List.getElem_cons_succ]
    refine wpAnyH_take (i := 14) (v := ?_) rfl (by kernel_rfl) (by kernel_rfl) (by kernel_rfl) (fun _ _ _ h => h) (Or.inl ⟨by rfl, ?_⟩) (by assumption) ?_
    rotate_left
    · intro W hSW; (try dsimp only at hSW); go_simp; try with_reducible rfl
    try simp only [Act.put, List.setIfInBounds_toArray, List.set_cons_zero, List.set_cons_succ, List.getElem_toArray, List.getElem_cons_zero, List.getElem_cons_succ]
    refine wpAnyH_take (i := 15) (v := ?_) rfl (by kernel_rfl) (by kernel_rfl) (by kernel_rfl) (fun _ _ _ h => h) (Or.inl ⟨by rfl, ?_⟩) (by assumption) ?_
    rotate_left
    · intro W hSW; (try dsimp only at hSW); go_simp; try with_reducible rfl
    try simp only [Act.put, List.setIfInBounds_toArray, List.set_cons_zero, List.set_cons_succ, List.getElem_toArray, List.getElem_cons_zero, List.getElem_cons_succ]
    refine wpAnyH_take (i := 16) (v := ?_) rfl (by kernel_rfl) (by kernel_rfl) (by kernel_rfl) (fun _ _ _ h => h) (Or.inl ⟨by rfl, ?_⟩) (by assumption) ?_
    rotate_left
    · intro W hSW; (try dsimp only at hSW); go_simp; try with_reducible rfl
    try simp only [Act.put, List.setIfInBounds_toArray, List.set_cons_zero, List.set_cons_succ, List.getElem_toArray, List.getElem_cons_zero, List.getElem_cons_succ]
    refine wpAnyH_ready (rs := [4, 17]) (by kernel_rfl) (by simp) ?_
    refine AllReadyH.cons rfl (fun K hK => ?_) (AllReadyH.cons rfl (fun K hK => ?_) AllReadyH.nil)
    · go_simp
      refine hK.out _ _ (by exact ⟨cell_up (up1 w2 _) d0, cell_up (up1 w2 _) d4, cell_up (up1 w2 _) dw⟩) (fun hHeld => ?_)
      clear hK
      try simp only [Act.put, List.setIfInBounds_toArray, List.set_cons_zero, List.set_cons_succ, List.getElem_toArray, List.getElem_cons_zero, List.getElem_cons_succ]
      refine wpAnyH_more (C := fun W => W.cell? ⟨w2.heap.size, 0, none⟩ = some (.int .u8 43)) (by assumption) (by exact block_cell (block_new w2 _) 0) (fun hHeld2 => ?_)
      clear hHeld
      refine wpAnyH_take (i := 5) (v := ?_) rfl (by kernel_rfl) (by kernel_rfl) (by kernel_rfl) (fun _ _ _ h => h) (Or.inl ⟨by rfl, ?_⟩) (by assumption) ?_
      rotate_left
      · intro W hSW; (try dsimp only at hSW); go_simp; try with_reducible rfl
      try simp only [Act.put, List.setIfInBounds_toArray, List.set_cons_zero, List.set_cons_succ, List.getElem_toArray, List.getElem_cons_zero, List.getElem_cons_succ]
      refine wpAnyH_take (i := 6) (v := ?_) rfl (by kernel_rfl) (by kernel_rfl) (by kernel_rfl) (fun _ _ _ h => h) (Or.inl ⟨by rfl, ?_⟩) (by assumption) ?_
      rotate_left
      · intro W hSW; (try dsimp only at hSW); go_simp; try with_reducible rfl
      try simp only [Act.put, List.setIfInBounds_toArray, List.set_cons_zero, List.set_cons_succ, List.getElem_toArray, List.getElem_cons_zero, List.getElem_cons_succ]
      refine wpAnyH_take (i := 7) (v := ?_) rfl (by kernel_rfl) (by kernel_rfl) (by kernel_rfl) (fun _ _ _ h => h) (Or.inl ⟨by rfl, ?_⟩) (by assumption) ?_
      rotate_left
      · intro W hSW; (try dsimp only at hSW); go_simp; try with_reducible rfl
      try simp only [Act.put, List.setIfInBounds_toArray, List.set_cons_zero, List.set_cons_succ, List.getElem_toArray, List.getElem_cons_zero, List.getElem_cons_succ]
      refine wpAnyH_take (i := 9) (v := ?_) rfl (by kernel_rfl) (by kernel_rfl) (by kernel_rfl) (fun _ _ _ h => h) (Or.inl ⟨by rfl, ?_⟩) (by assumption) ?_
      rotate_left
      · intro W hSW; (try dsimp only at hSW); go_simp; try with_reducible rfl
      try simp only [Act.put, List.setIfInBounds_toArray, List.set_cons_zero, List.set_cons_succ, List.getElem_toArray, List.getElem_cons_zero, List.getElem_cons_succ]
      refine wpAnyH_take (i := 10) (v := ?_) rfl (by kernel_rfl) (by kernel_rfl) (by kernel_rfl) (fun _ _ _ h => h) (Or.inl ⟨by rfl, ?_⟩) (by assumption) ?_
      rotate_left
      · intro W hSW; (try dsimp only at hSW); go_simp; try with_reducible rfl
      try simp only [Act.put, List.setIfInBounds_toArray, List.set_cons_zero, List.set_cons_succ, List.getElem_toArray, List.getElem_cons_zero, List.getElem_cons_succ]
      refine wpAnyH_ready (rs := [17]) (by kernel_rfl) (by simp) ?_
      refine AllReadyH.cons rfl (fun K hK => ?_) AllReadyH.nil
      go_simp
      go_at_call 103
      (refine (IHB.out _ (HN2.out.up (by repeat (first | exact Below.refl _ _ | refine up_drew ?_ | refine up_alloc ?_ _))) (grow_up2 HG2.out (by repeat (first | exact Below.refl _ _ | refine up_drew ?_ | refine up_alloc ?_ _)))).mono ?_)
      rintro e w3 ⟨rfl, hcn, hg⟩
      have HN3 := Lib.hid hcn
      have HG3 : Hid (w.grownBy w3 (some bn)) := grow_grow (grow_up2 HG2.out (by repeat (first | exact Below.refl _ _ | refine up_drew ?_ | refine up_alloc ?_ _))) hg (.inl rfl)
      obtain ⟨f0, f3, f4⟩ := HC.out w3 HG3.out
      have fw := HF.out w3 _ HN3.out
      have lg3 := World.block_lt_of_cell? w3 _ f0
      have dk : w3.cell? ⟨w2.heap.size, 0, none⟩ = some (.int .u8 43) := hg.cell (block_cell (block_new w2 _) 0) (by have := lt_of_block HN2.out.hn; simp; omega)
      clear hcn hg
      refine hK.out _ _ (by exact ⟨⟨f0, f4, fw⟩, dk⟩) (fun hHeld => ?_)
      clear hK
      try simp only [Act.put, List.setIfInBounds_toArray, List.set_cons_zero, List.set_cons_succ, List.getElem_toArray, List.getElem_cons_zero, List.getElem_cons_succ]
      clear hHeld2
      refine wpAnyH_take (i := 18) (v := ?_) rfl (by kernel_rfl) (by kernel_rfl) (by kernel_rfl) (fun _ _ _ h => h) (Or.inl ⟨by rfl, ?_⟩) (by assumption) ?_
      rotate_left
      · intro W hSW; (try dsimp only at hSW); go_simp; try with_reducible rfl
      try simp only [Act.put, List.setIfInBounds_toArray, List.set_cons_zero, List.set_cons_succ, List.getElem_toArray, List.getElem_cons_zero, List.getElem_cons_succ]
      refine wpAnyH_take (i := 19) (v := ?_) rfl (by kernel_rfl) (by kernel_rfl) (by kernel_rfl) (fun _ _ _ h => h) (Or.inl ⟨by rfl, ?_⟩) (by assumption) ?_
      rotate_left
      · intro W hSW; (try dsimp only at hSW); go_simp; try with_reducible rfl
      try simp only [Act.put, List.setIfInBounds_toArray, List.set_cons_zero, List.set_cons_succ, List.getElem_toArray, List.getElem_cons_zero, List.getElem_cons_succ]
      refine wpAnyH_take (i := 20) (v := ?_) rfl (by kernel_rfl) (by kernel_rfl) (by kernel_rfl) (fun _ _ _ h => h) (Or.inl ⟨by rfl, ?_⟩) (by assumption) ?_
      rotate_left
      · intro W hSW; (try dsimp only at hSW); go_simp; try with_reducible rfl
      try simp only [Act.put, List.setIfInBounds_toArray, List.set_cons_zero, List.set_cons_succ, List.getElem_toArray, List.getElem_cons_zero, List.getElem_cons_succ]
      refine wpAnyH_done (by kernel_rfl) ?_ _
      refine NoPanic.normal ?_
      go_wp2
      go_ret
      exact ⟨congrArg (fun z => Ending.returned (.string z)) HST.out, HN3.out, HG3.out⟩
    · go_simp
      go_at_call 103
      (refine (IHB.out _ (HN2.out.up (by repeat (first | exact Below.refl _ _ | refine up_drew ?_ | refine up_alloc ?_ _))) (grow_up2 HG2.out (by repeat (first | exact Below.refl _ _ | refine up_drew ?_ | refine up_alloc ?_ _)))).mono ?_)
      rintro e w3 ⟨rfl, hcn, hg⟩
      have HN3 := Lib.hid hcn
      have HG3 : Hid (w.grownBy w3 (some bn)) := grow_grow (grow_up2 HG2.out (by repeat (first | exact Below.refl _ _ | refine up_drew ?_ | refine up_alloc ?_ _))) hg (.inl rfl)
      obtain ⟨f0, f3, f4⟩ := HC.out w3 HG3.out
      have fw := HF.out w3 _ HN3.out
      have lg3 := World.block_lt_of_cell? w3 _ f0
      clear hcn hg
      refine hK.out _ _ (by exact ⟨f0, f4, fw⟩) (fun hHeld => ?_)
      clear hK
      try simp only [Act.put, List.setIfInBounds_toArray, List.set_cons_zero, List.set_cons_succ, List.getElem_toArray, List.getElem_cons_zero, List.getElem_cons_succ]
      refine wpAnyH_ready (rs := [4]) (by kernel_rfl) (by simp) ?_
      refine AllReadyH.cons rfl (fun K hK => ?_) AllReadyH.nil
      go_simp
      refine hK.out _ _ (by exact ⟨cell_up (up1 w3 _) f0, cell_up (up1 w3 _) f4, cell_up (up1 w3 _) fw⟩) (fun hHeld => ?_)
      clear hK
      try simp only [Act.put, List.setIfInBounds_toArray, List.set_cons_zero, List.set_cons_succ, List.getElem_toArray, List.getElem_cons_zero, List.getElem_cons_succ]
      refine wpAnyH_more (C := fun W => W.cell? ⟨w3.heap.size, 0, none⟩ = some (.int .u8 43)) (by assumption) (by exact block_cell (block_new w3 _) 0) (fun hHeld2 => ?_)
      clear hHeld
      refine wpAnyH_take (i := 5) (v := ?_) rfl (by kernel_rfl) (by kernel_rfl) (by kernel_rfl) (fun _ _ _ h => h) (Or.inl ⟨by rfl, ?_⟩) (by assumption) ?_
      rotate_left
      · intro W hSW; (try dsimp only at hSW); go_simp; try with_reducible rfl
      try simp only [Act.put, List.setIfInBounds_toArray, List.set_cons_zero, List.set_cons_succ, List.getElem_toArray, List.getElem_cons_zero, List.getElem_cons_succ]
      refine wpAnyH_take (i := 6) (v := ?_) rfl (by kernel_rfl) (by kernel_rfl) (by kernel_rfl) (fun _ _ _ h => h) (Or.inl ⟨by rfl, ?_⟩) (by assumption) ?_
      rotate_left
      · intro W hSW; (try dsimp only at hSW); go_simp; try with_reducible rfl
      try simp only [Act.put, List.setIfInBounds_toArray, List.set_cons_zero, List.set_cons_succ, List.getElem_toArray, List.getElem_cons_zero, List.getElem_cons_succ]
      refine wpAnyH_take (i := 7) (v := ?_) rfl (by kernel_rfl) (by kernel_rfl) (by kernel_rfl) (fun _ _ _ h => h) (Or.inl ⟨by rfl, ?_⟩) (by assumption) ?_
      rotate_left
      · intro W hSW; (try dsimp only at hSW); go_simp; try with_reducible rfl
      try simp only [Act.put, List.setIfInBounds_toArray, List.set_cons_zero, List.set_cons_succ, List.getElem_toArray, List.getElem_cons_zero, List.getElem_cons_succ]
      refine wpAnyH_take (i := 9) (v := ?_) rfl (by kernel_rfl) (by kernel_rfl) (by kernel_rfl) (fun _ _ _ h => h) (Or.inl ⟨by rfl, ?_⟩) (by assumption) ?_
      rotate_left
      · intro W hSW; (try dsimp only at hSW); go_simp; try with_reducible rfl
      try simp only [Act.put, List.setIfInBounds_toArray, List.set_cons_zero, List.set_cons_succ, List.getElem_toArray, List.getElem_cons_zero, List.getElem_cons_succ]
      refine wpAnyH_take (i := 10) (v := ?_) rfl (by kernel_rfl) (by kernel_rfl) (by kernel_rfl) (fun _ _ _ h => h) (Or.inl ⟨by rfl, ?_⟩) (by assumption) ?_
      rotate_left
      · intro W hSW; (try dsimp only at hSW); go_simp; try with_reducible rfl
      try simp only [Act.put, List.setIfInBounds_toArray, List.set_cons_zero, List.set_cons_succ, List.getElem_toArray, List.getElem_cons_zero, List.getElem_cons_succ]
      refine wpAnyH_take (i := 18) (v := ?_) rfl (by kernel_rfl) (by kernel_rfl) (by kernel_rfl) (fun _ _ _ h => h) (Or.inl ⟨by rfl, ?_⟩) (by assumption) ?_
      rotate_left
      · intro W hSW; (try dsimp only at hSW); go_simp; try with_reducible rfl
      try simp only [Act.put, List.setIfInBounds_toArray, List.set_cons_zero, List.set_cons_succ, List.getElem_toArray, List.getElem_cons_zero, List.getElem_cons_succ]
      refine wpAnyH_take (i := 19) (v := ?_) rfl (by kernel_rfl) (by kernel_rfl) (by kernel_rfl) (fun _ _ _ h => h) (Or.inl ⟨by rfl, ?_⟩) (by assumption) ?_
      rotate_left
      · intro W hSW; (try dsimp only at hSW); go_simp; try with_reducible rfl
      try simp only [Act.put, List.setIfInBounds_toArray, List.set_cons_zero, List.set_cons_succ, List.getElem_toArray, List.getElem_cons_zero, List.getElem_cons_succ]
      refine wpAnyH_take (i := 20) (v := ?_) rfl (by kernel_rfl) (by kernel_rfl) (by kernel_rfl) (fun _ _ _ h => h) (Or.inl ⟨by rfl, ?_⟩) (by assumption) ?_
      rotate_left
      · intro W hSW; (try dsimp only at hSW); go_simp; try with_reducible rfl
      try simp only [Act.put, List.setIfInBounds_toArray, List.set_cons_zero, List.set_cons_succ, List.getElem_toArray, List.getElem_cons_zero, List.getElem_cons_succ]
      refine wpAnyH_done (by kernel_rfl) ?_ _
      refine NoPanic.normal ?_
      go_wp2
      go_ret
      exact ⟨congrArg (fun z => Ending.returned (.string z)) HST.out, HN3.out.up (up1 _ _), grow_up2 HG3.out (up1 _ _)⟩
  · go_enter Tryd.func103, Tryd.ntmps103
    go_wp2
    go_region_held3 (fun w' => w'.cell? ⟨g, 0, none⟩ = some (.int .u8 42) ∧ w'.cell? ⟨g, 3, none⟩ = some (.pointer pa) ∧ w'.cell? ⟨g, 4, none⟩ = some (.pointer pb) ∧ w'.cell? ⟨bw, 0, none⟩ = some (.func (.func 103) #[] #[.pointer (some ⟨bw, 0, none⟩), .pointer (some ⟨bf, 0, none⟩), .pointer (some ⟨bn, 0, none⟩)]))
      (first | exact ⟨d0, d3, d4, dw⟩ | exact ⟨c0, c3, c4, cw⟩ | go_keep)
      ((go_at_call 103; refine (IHA.out _ (by first | exact Below.refl _ _ | exact up_drew (Below.refl _ _))).mono ?_; rintro e w2 ⟨rfl, hcn, hg⟩; have HN2 := Lib.hid hcn; have HG2 : Hid (w.grownBy w2 (some bn)) := (by first | exact hg | exact up_grow (up_drew (Below.refl _ _)) hg); obtain ⟨d0, d3, d4⟩ := HC.out w2 HG2.out; have dw := HF.out w2 _ HN2.out; have lg2 := World.block_lt_of_cell? w2 _ d0; have lw2 := World.block_lt_of_cell? w2 _ dw; clear hcn hg))
    all_goals go_wp2
    refine wp_region_noPanic ?_
    refine wp_region_held_drew (S := (fun w' => w'.cell? ⟨g, 0, none⟩ = some (.int .u8 42) ∧ w'.cell? ⟨g, 4, none⟩ = some (.pointer pb) ∧ w'.cell? ⟨bw, 0, none⟩ = some (.func (.func 103) #[] #[.pointer (some ⟨bw, 0, none⟩), .pointer (some ⟨bf, 0, none⟩), .pointer (some ⟨bn, 0, none⟩)]))) (by kernel_rfl) (by exact ⟨d0, d4, dw⟩) (fun hHeld => ?_)
    refine wpAnyH_take (i := 0) (v := ?_) rfl (by kernel_rfl) (by kernel_rfl) (by kernel_rfl) (fun _ _ _ h => h) (Or.inl ⟨by rfl, ?_⟩) (by assumption) ?_
    rotate_left
    · intro W hSW; (try dsimp only at hSW); go_simp; try with_reducible rfl
    try simp only [Act.put, List.setIfInBounds_toArray, List.set_cons_zero, List.set_cons_succ, List.getElem_toArray, List.getElem_cons_zero, List.getElem_cons_succ]
    refine wpAnyH_take (i := 1) (v := ?_) rfl (by kernel_rfl) (by kernel_rfl) (by kernel_rfl) (fun _ _ _ h => h) (Or.inl ⟨by rfl, ?_⟩) (by assumption) ?_
    rotate_left
    · intro W hSW; (try dsimp only at hSW); go_simp; try with_reducible rfl
    try simp only [Act.put, List.setIfInBounds_toArray, List.set_cons_zero, List.set_cons_succ, List.getElem_toArray, List.getElem_cons_zero, List.getElem_cons_succ]
    refine wpAnyH_take (i := 2) (v := ?_) rfl (by kernel_rfl) (by kernel_rfl) (by kernel_rfl) (fun _ _ _ h => h) (Or.inl ⟨by rfl, ?_⟩) (by assumption) ?_
    rotate_left
    · intro W hSW; (try dsimp only at hSW); go_simp; try with_reducible rfl
    try simp only [Act.put, List.setIfInBounds_toArray, List.set_cons_zero, List.set_cons_succ, List.getElem_toArray, List.getElem_cons_zero, List.getElem_cons_succ]
    refine wpAnyH_take (i := 3) (v := ?_) rfl (by kernel_rfl) (by kernel_rfl) (by kernel_rfl) (fun _ _ _ h => h) (Or.inl ⟨by rfl, ?_⟩) (by assumption) ?_
    rotate_left
    · intro W hSW; (try dsimp only at hSW); go_simp; try with_reducible rfl
    try simp only [Act.put, List.setIfInBounds_toArray, List.set_cons_zero, List.set_cons_succ, List.getElem_toArray, List.getElem_cons_zero, List.getElem_cons_succ]
    refine wpAnyH_take (i := 8) (v := ?_) rfl (by kernel_rfl) (by kernel_rfl) (by kernel_rfl) (fun _ _ _ h => h) (Or.inl ⟨by rfl, ?_⟩) (by assumption) ?_
    rotate_left
    · intro W hSW; (try dsimp only at hSW); go_simp; try with_reducible rfl
    try simp only [Act.put, List.setIfInBounds_toArray, List.set_cons_zero, List.set_cons_succ, List.getElem_toArray, List.getElem_cons_zero, List.getElem_cons_succ]
    refine wpAnyH_take (i := 11) (v := ?_) rfl (by kernel_rfl) (by kernel_rfl) (by kernel_rfl) (fun _ _ _ h => h) (Or.inl ⟨by rfl, ?_⟩) (by assumption) ?_
    rotate_left
    · intro W hSW; (try dsimp only at hSW); go_simp; try with_reducible rfl
    try simp only [Act.put, List.setIfInBounds_toArray, List.set_cons_zero, List.set_cons_succ, List.getElem_toArray, List.getElem_cons_zero, List.getElem_cons_succ]
    refine wpAnyH_take (i := 12) (v := ?_) rfl (by kernel_rfl) (by kernel_rfl) (by kernel_rfl) (fun _ _ _ h => h) (Or.inl ⟨by rfl, ?_⟩) (by assumption) ?_
    rotate_left
    · intro W hSW; (try dsimp only at hSW); go_simp; try with_reducible rfl
    try simp only [Act.put, List.setIfInBounds_toArray, List.set_cons_zero, List.set_cons_succ, List.getElem_toArray, List.getElem_cons_zero, List.getElem_cons_succ]
    refine wpAnyH_take (i := 13) (v := ?_) rfl (by kernel_rfl) (by kernel_rfl) (by kernel_rfl) (fun _ _ _ h => h) (Or.inl ⟨by rfl, ?_⟩) (by assumption) ?_
    rotate_left
    · intro W hSW; (try dsimp only at hSW); go_simp; try with_reducible rfl
    try simp only [Act.put, List.setIfInBounds_toArray, List.set_cons_zero, List.set_cons_succ, List.getElem_toArray, List.getElem_cons_zero, List.getElem_cons_succ]
    refine wpAnyH_take (i := 14) (v := ?_) rfl (by kernel_rfl) (by kernel_rfl) (by kernel_rfl) (fun _ _ _ h => h) (Or.inl ⟨by rfl, ?_⟩) (by assumption) ?_
    rotate_left
    · intro W hSW; (try dsimp only at hSW); go_simp; try with_reducible rfl
    try simp only [Act.put, List.setIfInBounds_toArray, List.set_cons_zero, List.set_cons_succ, List.getElem_toArray, List.getElem_cons_zero, List.getElem_cons_succ]
    refine wpAnyH_take (i := 15) (v := ?_) rfl (by kernel_rfl) (by kernel_rfl) (by kernel_rfl) (fun _ _ _ h => h) (Or.inl ⟨by rfl, ?_⟩) (by assumption) ?_
    rotate_left
    · intro W hSW; (try dsimp only at hSW); go_simp; try with_reducible rfl
    try simp only [Act.put, List.setIfInBounds_toArray, List.set_cons_zero, List.set_cons_succ, List.getElem_toArray, List.getElem_cons_zero, List.getElem_cons_succ]
    refine wpAnyH_take (i := 16) (v := ?_) rfl (by kernel_rfl) (by kernel_rfl) (by kernel_rfl) (fun _ _ _ h => h) (Or.inl ⟨by rfl, ?_⟩) (by assumption) ?_
    rotate_left
    · intro W hSW; (try dsimp only at hSW); go_simp; try with_reducible rfl
    try simp only [Act.put, List.setIfInBounds_toArray, List.set_cons_zero, List.set_cons_succ, List.getElem_toArray, List.getElem_cons_zero, List.getElem_cons_succ]
    refine wpAnyH_ready (rs := [4, 17]) (by kernel_rfl) (by simp) ?_
    refine AllReadyH.cons rfl (fun K hK => ?_) (AllReadyH.cons rfl (fun K hK => ?_) AllReadyH.nil)
    · go_simp
      refine hK.out _ _ (by exact ⟨cell_up (up1 w2 _) d0, cell_up (up1 w2 _) d4, cell_up (up1 w2 _) dw⟩) (fun hHeld => ?_)
      clear hK
      try simp only [Act.put, List.setIfInBounds_toArray, List.set_cons_zero, List.set_cons_succ, List.getElem_toArray, List.getElem_cons_zero, List.getElem_cons_succ]
      refine wpAnyH_more (C := fun W => W.cell? ⟨w2.heap.size, 0, none⟩ = some (.int .u8 42)) (by assumption) (by exact block_cell (block_new w2 _) 0) (fun hHeld2 => ?_)
      clear hHeld
      refine wpAnyH_take (i := 5) (v := ?_) rfl (by kernel_rfl) (by kernel_rfl) (by kernel_rfl) (fun _ _ _ h => h) (Or.inl ⟨by rfl, ?_⟩) (by assumption) ?_
      rotate_left
      · intro W hSW; (try dsimp only at hSW); go_simp; try with_reducible rfl
      try simp only [Act.put, List.setIfInBounds_toArray, List.set_cons_zero, List.set_cons_succ, List.getElem_toArray, List.getElem_cons_zero, List.getElem_cons_succ]
      refine wpAnyH_take (i := 6) (v := ?_) rfl (by kernel_rfl) (by kernel_rfl) (by kernel_rfl) (fun _ _ _ h => h) (Or.inl ⟨by rfl, ?_⟩) (by assumption) ?_
      rotate_left
      · intro W hSW; (try dsimp only at hSW); go_simp; try with_reducible rfl
      try simp only [Act.put, List.setIfInBounds_toArray, List.set_cons_zero, List.set_cons_succ, List.getElem_toArray, List.getElem_cons_zero, List.getElem_cons_succ]
      refine wpAnyH_take (i := 7) (v := ?_) rfl (by kernel_rfl) (by kernel_rfl) (by kernel_rfl) (fun _ _ _ h => h) (Or.inl ⟨by rfl, ?_⟩) (by assumption) ?_
      rotate_left
      · intro W hSW; (try dsimp only at hSW); go_simp; try with_reducible rfl
      try simp only [Act.put, List.setIfInBounds_toArray, List.set_cons_zero, List.set_cons_succ, List.getElem_toArray, List.getElem_cons_zero, List.getElem_cons_succ]
      refine wpAnyH_take (i := 9) (v := ?_) rfl (by kernel_rfl) (by kernel_rfl) (by kernel_rfl) (fun _ _ _ h => h) (Or.inl ⟨by rfl, ?_⟩) (by assumption) ?_
      rotate_left
      · intro W hSW; (try dsimp only at hSW); go_simp; try with_reducible rfl
      try simp only [Act.put, List.setIfInBounds_toArray, List.set_cons_zero, List.set_cons_succ, List.getElem_toArray, List.getElem_cons_zero, List.getElem_cons_succ]
      refine wpAnyH_take (i := 10) (v := ?_) rfl (by kernel_rfl) (by kernel_rfl) (by kernel_rfl) (fun _ _ _ h => h) (Or.inl ⟨by rfl, ?_⟩) (by assumption) ?_
      rotate_left
      · intro W hSW; (try dsimp only at hSW); go_simp; try with_reducible rfl
      try simp only [Act.put, List.setIfInBounds_toArray, List.set_cons_zero, List.set_cons_succ, List.getElem_toArray, List.getElem_cons_zero, List.getElem_cons_succ]
      refine wpAnyH_ready (rs := [17]) (by kernel_rfl) (by simp) ?_
      refine AllReadyH.cons rfl (fun K hK => ?_) AllReadyH.nil
      go_simp
      go_at_call 103
      (refine (IHB.out _ (HN2.out.up (by repeat (first | exact Below.refl _ _ | refine up_drew ?_ | refine up_alloc ?_ _))) (grow_up2 HG2.out (by repeat (first | exact Below.refl _ _ | refine up_drew ?_ | refine up_alloc ?_ _)))).mono ?_)
      rintro e w3 ⟨rfl, hcn, hg⟩
      have HN3 := Lib.hid hcn
      have HG3 : Hid (w.grownBy w3 (some bn)) := grow_grow (grow_up2 HG2.out (by repeat (first | exact Below.refl _ _ | refine up_drew ?_ | refine up_alloc ?_ _))) hg (.inl rfl)
      obtain ⟨f0, f3, f4⟩ := HC.out w3 HG3.out
      have fw := HF.out w3 _ HN3.out
      have lg3 := World.block_lt_of_cell? w3 _ f0
      have dk : w3.cell? ⟨w2.heap.size, 0, none⟩ = some (.int .u8 42) := hg.cell (block_cell (block_new w2 _) 0) (by have := lt_of_block HN2.out.hn; simp; omega)
      clear hcn hg
      refine hK.out _ _ (by exact ⟨⟨f0, f4, fw⟩, dk⟩) (fun hHeld => ?_)
      clear hK
      try simp only [Act.put, List.setIfInBounds_toArray, List.set_cons_zero, List.set_cons_succ, List.getElem_toArray, List.getElem_cons_zero, List.getElem_cons_succ]
      clear hHeld2
      refine wpAnyH_take (i := 18) (v := ?_) rfl (by kernel_rfl) (by kernel_rfl) (by kernel_rfl) (fun _ _ _ h => h) (Or.inl ⟨by rfl, ?_⟩) (by assumption) ?_
      rotate_left
      · intro W hSW; (try dsimp only at hSW); go_simp; try with_reducible rfl
      try simp only [Act.put, List.setIfInBounds_toArray, List.set_cons_zero, List.set_cons_succ, List.getElem_toArray, List.getElem_cons_zero, List.getElem_cons_succ]
      refine wpAnyH_take (i := 19) (v := ?_) rfl (by kernel_rfl) (by kernel_rfl) (by kernel_rfl) (fun _ _ _ h => h) (Or.inl ⟨by rfl, ?_⟩) (by assumption) ?_
      rotate_left
      · intro W hSW; (try dsimp only at hSW); go_simp; try with_reducible rfl
      try simp only [Act.put, List.setIfInBounds_toArray, List.set_cons_zero, List.set_cons_succ, List.getElem_toArray, List.getElem_cons_zero, List.getElem_cons_succ]
      refine wpAnyH_take (i := 20) (v := ?_) rfl (by kernel_rfl) (by kernel_rfl) (by kernel_rfl) (fun _ _ _ h => h) (Or.inl ⟨by rfl, ?_⟩) (by assumption) ?_
      rotate_left
      · intro W hSW; (try dsimp only at hSW); go_simp; try with_reducible rfl
      try simp only [Act.put, List.setIfInBounds_toArray, List.set_cons_zero, List.set_cons_succ, List.getElem_toArray, List.getElem_cons_zero, List.getElem_cons_succ]
      refine wpAnyH_done (by kernel_rfl) ?_ _
      refine NoPanic.normal ?_
      go_wp2
      go_ret
      exact ⟨congrArg (fun z => Ending.returned (.string z)) HST.out, HN3.out, HG3.out⟩
    · go_simp
      go_at_call 103
      (refine (IHB.out _ (HN2.out.up (by repeat (first | exact Below.refl _ _ | refine up_drew ?_ | refine up_alloc ?_ _))) (grow_up2 HG2.out (by repeat (first | exact Below.refl _ _ | refine up_drew ?_ | refine up_alloc ?_ _)))).mono ?_)
      rintro e w3 ⟨rfl, hcn, hg⟩
      have HN3 := Lib.hid hcn
      have HG3 : Hid (w.grownBy w3 (some bn)) := grow_grow (grow_up2 HG2.out (by repeat (first | exact Below.refl _ _ | refine up_drew ?_ | refine up_alloc ?_ _))) hg (.inl rfl)
      obtain ⟨f0, f3, f4⟩ := HC.out w3 HG3.out
      have fw := HF.out w3 _ HN3.out
      have lg3 := World.block_lt_of_cell? w3 _ f0
      clear hcn hg
      refine hK.out _ _ (by exact ⟨f0, f4, fw⟩) (fun hHeld => ?_)
      clear hK
      try simp only [Act.put, List.setIfInBounds_toArray, List.set_cons_zero, List.set_cons_succ, List.getElem_toArray, List.getElem_cons_zero, List.getElem_cons_succ]
      refine wpAnyH_ready (rs := [4]) (by kernel_rfl) (by simp) ?_
      refine AllReadyH.cons rfl (fun K hK => ?_) AllReadyH.nil
      go_simp
      refine hK.out _ _ (by exact ⟨cell_up (up1 w3 _) f0, cell_up (up1 w3 _) f4, cell_up (up1 w3 _) fw⟩) (fun hHeld => ?_)
      clear hK
      try simp only [Act.put, List.setIfInBounds_toArray, List.set_cons_zero, List.set_cons_succ, List.getElem_toArray, List.getElem_cons_zero, List.getElem_cons_succ]
      refine wpAnyH_more (C := fun W => W.cell? ⟨w3.heap.size, 0, none⟩ = some (.int .u8 42)) (by assumption) (by exact block_cell (block_new w3 _) 0) (fun hHeld2 => ?_)
      clear hHeld
      refine wpAnyH_take (i := 5) (v := ?_) rfl (by kernel_rfl) (by kernel_rfl) (by kernel_rfl) (fun _ _ _ h => h) (Or.inl ⟨by rfl, ?_⟩) (by assumption) ?_
      rotate_left
      · intro W hSW; (try dsimp only at hSW); go_simp; try with_reducible rfl
      try simp only [Act.put, List.setIfInBounds_toArray, List.set_cons_zero, List.set_cons_succ, List.getElem_toArray, List.getElem_cons_zero, List.getElem_cons_succ]
      refine wpAnyH_take (i := 6) (v := ?_) rfl (by kernel_rfl) (by kernel_rfl) (by kernel_rfl) (fun _ _ _ h => h) (Or.inl ⟨by rfl, ?_⟩) (by assumption) ?_
      rotate_left
      · intro W hSW; (try dsimp only at hSW); go_simp; try with_reducible rfl
      try simp only [Act.put, List.setIfInBounds_toArray, List.set_cons_zero, List.set_cons_succ, List.getElem_toArray, List.getElem_cons_zero, List.getElem_cons_succ]
      refine wpAnyH_take (i := 7) (v := ?_) rfl (by kernel_rfl) (by kernel_rfl) (by kernel_rfl) (fun _ _ _ h => h) (Or.inl ⟨by rfl, ?_⟩) (by assumption) ?_
      rotate_left
      · intro W hSW; (try dsimp only at hSW); go_simp; try with_reducible rfl
      try simp only [Act.put, List.setIfInBounds_toArray, List.set_cons_zero, List.set_cons_succ, List.getElem_toArray, List.getElem_cons_zero, List.getElem_cons_succ]
      refine wpAnyH_take (i := 9) (v := ?_) rfl (by kernel_rfl) (by kernel_rfl) (by kernel_rfl) (fun _ _ _ h => h) (Or.inl ⟨by rfl, ?_⟩) (by assumption) ?_
      rotate_left
      · intro W hSW; (try dsimp only at hSW); go_simp; try with_reducible rfl
      try simp only [Act.put, List.setIfInBounds_toArray, List.set_cons_zero, List.set_cons_succ, List.getElem_toArray, List.getElem_cons_zero, List.getElem_cons_succ]
      refine wpAnyH_take (i := 10) (v := ?_) rfl (by kernel_rfl) (by kernel_rfl) (by kernel_rfl) (fun _ _ _ h => h) (Or.inl ⟨by rfl, ?_⟩) (by assumption) ?_
      rotate_left
      · intro W hSW; (try dsimp only at hSW); go_simp; try with_reducible rfl
      try simp only [Act.put, List.setIfInBounds_toArray, List.set_cons_zero, List.set_cons_succ, List.getElem_toArray, List.getElem_cons_zero, List.getElem_cons_succ]
      refine wpAnyH_take (i := 18) (v := ?_) rfl (by kernel_rfl) (by kernel_rfl) (by kernel_rfl) (fun _ _ _ h => h) (Or.inl ⟨by rfl, ?_⟩) (by assumption) ?_
      rotate_left
      · intro W hSW; (try dsimp only at hSW); go_simp; try with_reducible rfl
      try simp only [Act.put, List.setIfInBounds_toArray, List.set_cons_zero, List.set_cons_succ, List.getElem_toArray, List.getElem_cons_zero, List.getElem_cons_succ]
      refine wpAnyH_take (i := 19) (v := ?_) rfl (by kernel_rfl) (by kernel_rfl) (by kernel_rfl) (fun _ _ _ h => h) (Or.inl ⟨by rfl, ?_⟩) (by assumption) ?_
      rotate_left
      · intro W hSW; (try dsimp only at hSW); go_simp; try with_reducible rfl
      try simp only [Act.put, List.setIfInBounds_toArray, List.set_cons_zero, List.set_cons_succ, List.getElem_toArray, List.getElem_cons_zero, List.getElem_cons_succ]
      refine wpAnyH_take (i := 20) (v := ?_) rfl (by kernel_rfl) (by kernel_rfl) (by kernel_rfl) (fun _ _ _ h => h) (Or.inl ⟨by rfl, ?_⟩) (by assumption) ?_
      rotate_left
      · intro W hSW; (try dsimp only at hSW); go_simp; try with_reducible rfl
      try simp only [Act.put, List.setIfInBounds_toArray, List.set_cons_zero, List.set_cons_succ, List.getElem_toArray, List.getElem_cons_zero, List.getElem_cons_succ]
      refine wpAnyH_done (by kernel_rfl) ?_ _
      refine NoPanic.normal ?_
      go_wp2
      go_ret
      exact ⟨congrArg (fun z => Ending.returned (.string z)) HST.out, HN3.out.up (up1 _ _), grow_up2 HG3.out (up1 _ _)⟩

theorem fresh_in (free : List (List UInt8)) : ∀ (f k j : Nat), k ≤ j → j < fresh free f k → tN j ∈ free
  | 0, k, j, h1, h2 => by simp only [fresh] at h2; omega
  | f + 1, k, j, h1, h2 => by
    rw [fresh] at h2
    split at h2
    · rename_i hm
      by_cases hj : j = k
      · subst hj
        exact hm
      · exact fresh_in free f (k + 1) j (by omega) h2
    · omega
theorem cat116 (l : List UInt8) : (⟨#[116]⟩ : ByteArray) ++ St l = St (116 :: l) := by
  apply ByteArray.ext
  simp [ByteArray.data_append]

set_option maxHeartbeats 8000000 in
set_option maxRecDepth 100000 in
theorem canW_loop (fs : List (List UInt8)) (hfl : fs.length ≤ 100000) (w : World) (g : Nat) (pa A : Option Addr) (n c : Nat) (B bw bf bn : Nat) (F : Option Addr) (cF k k2 : Nat) (ra : List UInt8) (hra : ra.length ≤ 1000000) (hk : k + fs.length ≤ 10000000)
    (es es2 : List Value) (hes : es.length = n) (hes2 : es ++ [.string (St (tN (freshN fs k)))] = es2) (hone : ∀ u ∈ es, u.oneCell' = true) (hn : n ≤ 100000)
    (hb : w.heap[g]? = some (.cells #[.int .u8 114, .string (St []), .int .i64 0, .pointer pa, .pointer none] 56 (0, 0))) (h : CN w B bw bf bn F cF fs k)
    (hrow : ∀ w1, w.grownBy w1 (some bn) → RCells w1 A es)
    (ih : ∀ (wr w1 : World) (g' c' : Nat), CN wr B bw bf bn F cF fs (freshN fs k + 1) → w.grownBy wr (some bn) → Below wr.heap.size wr w1 → w1.ownsRow wr.heap.size 9 1 (.slice (some ⟨g', 0, none⟩) (n + 1) c') (n + 1) es2 →
      Calls Tryd.prog 103 #[.pointer pa, .slice (some ⟨g', 0, none⟩) (n + 1) c', .pointer (some ⟨bw, 0, none⟩), .pointer (some ⟨bf, 0, none⟩), .pointer (some ⟨bn, 0, none⟩)] w1 (CPost w1 B bw bf bn F cF fs (ra, k2))) :
    Calls Tryd.prog 103 #[.pointer (some ⟨g, 0, none⟩), .slice A n c, .pointer (some ⟨bw, 0, none⟩), .pointer (some ⟨bf, 0, none⟩), .pointer (some ⟨bn, 0, none⟩)] w (CPost w B bw bf bn F cF fs ([40, 114, 101, 99, 32] ++ tN (freshN fs k) ++ [32] ++ ra ++ [41], k2)) := by
  obtain ⟨i0, hi0, hz0, hz1, hz2⟩ := info_parts Tryd.infoStr
  have IH := Lib.hid ih
  have H := Lib.hid h
  have HCG : Hid (∀ w1, w.grownBy w1 (some bn) → w1.cell? ⟨g, 3, none⟩ = some (.pointer pa)) := fun w1 hg => block_cell (h.keeps hg _ _ _ hb) 3
  have HF : Hid (∀ (w1 : World) k, CN w1 B bw bf bn F cF fs k → w1.cell? ⟨bw, 0, none⟩ = some (.func (.func 103) #[] #[.pointer (some ⟨bw, 0, none⟩), .pointer (some ⟨bf, 0, none⟩), .pointer (some ⟨bn, 0, none⟩)]) ∧ w1.cell? ⟨bf, 0, none⟩ = some (.slice F fs.length cF) ∧ w1.cell? ⟨bn, 0, none⟩ = some (.int .i64 k) ∧ w1.frozen? ⟨bn, 0, none⟩ = false ∧ bn < w1.heap.size) := fun w1 k h => ⟨block_cell h.hw 0, block_cell h.hf 0, block_cell h.hn 0, block_free h.hn 0, lt_of_block h.hn⟩
  have HIT : Hid (∀ (w1 : World) k, k ≤ 100000000 → CN w1 B bw bf bn F cF fs k → Calls Tryd.prog 104 #[.int .i64 k] w1 fun e w' => e = .returned (.string (St (decL k))) ∧ Below w1.heap.size w1 w') := fun w1 k hk h => itoa_any k B hk w1 h.tab
  have HCO : Hid (∀ (w1 : World) k s, CN w1 B bw bf bn F cF fs k → Calls Tryd.prog 92 #[.slice F fs.length cF, .string (St s)] w1 fun e w' => e = .returned (.bool (decide (s ∈ fs))) ∧ w1 = w') := fun w1 k s h => (contains_any fs F cF s w1 (by omega) h.hF.cells).mono fun e w' ⟨h1, h2⟩ => ⟨h1, h2.symm⟩
  have HROW := Lib.hid hrow
  have HFI : Hid (∀ j, k ≤ j → j < freshN fs k → tN j ∈ fs) := fresh_in fs fs.length k
  have HFN : Hid (tN (freshN fs k) ∉ fs) := freshN_not fs k
  have hfr : k ≤ freshN fs k ∧ freshN fs k ≤ k + fs.length := fresh_le fs fs.length k
  have HFR : Hid (k ≤ freshN fs k ∧ freshN fs k ≤ 10000000) := ⟨hfr.1, by omega⟩
  have HONE := Lib.hid hone
  have HLEN : Hid (es.length = n) := hes
  have HREV : Hid (es ++ [.string (St (tN (freshN fs k)))] = es2) := hes2
  have HNE : Hid (n ≤ 100000) := hn
  have c0 : w.cell? ⟨g, 0, none⟩ = some (.int .u8 114) := block_cell hb 0
  clear ih h hb hrow hone hes hes2 hn hfr hk hfl
  generalize freshN fs k = q at *
  go_enter Tryd.func103, Tryd.ntmps103
  go_wp2
  go_loopg [9] (q - k + 1) (fun m v9 wr => ∃ (x : List UInt8) (nx : Nat), v9 = .string (St x) ∧ Hid ((x = [] ∧ nx = k ∧ m = q - k + 1) ∨ (∃ j, x = tN j ∧ nx = j + 1 ∧ j + m = q ∧ k ≤ j)) ∧ Hid (CN wr B bw bf bn F cF fs nx) ∧ Hid (w.grownBy wr (some bn)))
  case atStart => exact ⟨[], k, rfl, .inl ⟨rfl, rfl, rfl⟩, H.out, World.grownBy.refl _ _⟩
  case round =>
    obtain ⟨x, nx, rfl, HX, HN, HG⟩ := hrel
    have HNX := HN
    obtain ⟨dw, df, dn, dz, dl⟩ := HF.out wr nx HN.out
    rcases HX.out with ⟨rfl, hnx, hm⟩ | ⟨j, hx, hnx, hm, hkj⟩
    · have hq := HFR.out
      obtain ⟨m, rfl⟩ : ∃ m, gk = m + 1 := ⟨gk - 1, by omega⟩
      have HI := Lib.hid (HIT.out wr nx (by omega) HN.out)
      have hw1 : IntKind.i64.wrap ((nx : Int) + 1) = (nx : Int) + 1 := by rw [IntKind.wrap_i64]; omega
      have HR : Hid (nx + m = q ∧ k ≤ nx) := ⟨by omega, by omega⟩
      have hdl : (decL nx).length ≤ 9 := by have := decL_len 8 nx (by omega); omega
      have q1 : ¬ 9223372036854775807 < 1 + (decL nx).length := by omega
      clear hnx hm hq HX
      go_wp2_with (go_at_call 104; (with_reducible refine HI.out.mono ?_); rintro e w2 ⟨rfl, hb2⟩; have HN2 := Lib.hid (HN.out.up hb2); have HG2 := Lib.hid (grow_up2 HG.out hb2); obtain ⟨fw, ff, fn, fz, fl⟩ := HF.out w2 nx HN2.out; clear hb2)
      go_roundg m
      case measure => omega
      case rel => exact ⟨tN nx, nx + 1, congrArg Value.string (cat116 _), .inr ⟨nx, rfl, rfl, HR.out⟩, HN2.out.next.1, grow_grow HG2.out HN2.out.next.2 (.inl rfl)⟩
    · have hq := HFR.out
      have hxn : x ≠ [] := by rw [hx]; exact (tN_ne j).1
      have k0 : (x == []) = false := by simpa using hxn
      have HC := Lib.hid (HCO.out wr nx x HN.out)
      by_cases hjq : j = q
      · have hdec : decide (x ∈ fs) = false := decide_eq_false (by rw [hx, hjq]; exact HFN.out)
        have hxl : x.length ≤ 10 := by rw [hx]; exact tN_len10 j (by omega)
        have HXQ : Hid (x = tN q) := by rw [hx, hjq]; exact rfl
        have HNQ : Hid (CN wr B bw bf bn F cF fs (q + 1)) := by have h2 := HN.out; rw [hnx, hjq] at h2; exact h2
        have HE : Hid (∀ w1, Below wr.heap.size wr w1 → w1.cell? ⟨g, 3, none⟩ = some (.pointer pa) ∧ w1.cell? ⟨bw, 0, none⟩ = some (.func (.func 103) #[] #[.pointer (some ⟨bw, 0, none⟩), .pointer (some ⟨bf, 0, none⟩), .pointer (some ⟨bn, 0, none⟩)])) := fun w1 hb => ⟨HCG.out w1 (grow_up2 HG.out hb), (HF.out w1 nx (HN.out.up hb)).1⟩
        have HR : Hid (∀ w1, Below wr.heap.size wr w1 → RCells w1 A es) := fun w1 hb => HROW.out w1 (grow_up2 HG.out hb)
        have HREV : Hid (es ++ [.string (St x)] = es2) := by have h2 := HREV.out; rw [← HXQ.out] at h2; exact h2
        have HST : Hid ((⟨#[40, 114, 101, 99, 32]⟩ : ByteArray) ++ St x ++ ⟨#[32]⟩ ++ St ra ++ ⟨#[41]⟩ = St ([40, 114, 101, 99, 32] ++ tN q ++ [32] ++ ra ++ [41])) := by
          show _ = _
          rw [← HXQ.out]
          apply ByteArray.ext
          simp [ByteArray.data_append]
        have q1 : ¬ 9223372036854775807 < 5 + x.length := by omega
        have q2 : ¬ 9223372036854775807 < 5 + x.length + 1 := by omega
        have q3 : ¬ 9223372036854775807 < 5 + x.length + 1 + ra.length := by omega
        have q4 : ¬ 9223372036854775807 < 5 + x.length + 1 + ra.length + 1 := by omega
        obtain ⟨e3, ew⟩ := HE.out wr (Below.refl _ _)
        clear hx hnx hm hkj hq hxn hjq HX
        go_wp2_with (go_at_call 92; (with_reducible refine HC.out.mono ?_); rintro e w2 ⟨rfl, rfl⟩)
        go_region_held3 (fun w' => w'.cell? ⟨g, 3, none⟩ = some (.pointer pa) ∧ w'.cell? ⟨bw, 0, none⟩ = some (.func (.func 103) #[] #[.pointer (some ⟨bw, 0, none⟩), .pointer (some ⟨bf, 0, none⟩), .pointer (some ⟨bn, 0, none⟩)]))
          (first | exact ⟨d63, d6w⟩ | exact ⟨d53, d5w⟩ | exact ⟨d43, d4w⟩ | exact ⟨e3, ew⟩ | exact HE.out _ (up1 _ _) | exact HE.out _ (up_alloc (up1 _ _) _) | exact HE.out _ (up_alloc HB4.out _) | go_keep)
          (first
        | (go_at_call 103; (with_reducible refine (IH.out wr _ _ _ HNQ.out HG.out HB5.out HO5.out).mono ?_); rintro e w6 ⟨rfl, hn6, hg6⟩; have HN6 := Lib.hid hn6; have HG6 := Lib.hid (grow_grow (grow_up2 HG.out HB5.out) hg6 (.inl rfl)); have d63 := HCG.out w6 HG6.out; have d6w := (HF.out w6 _ HN6.out).1; clear hn6 hg6)
        | ((refine step_append_row _ rfl _ _ 33 rfl wr.heap.size 9 i0 (.string ⟨#[]⟩) 16 Tryd.underlying33 hi0 hz0 hz1 hz2 rfl _ 0 0 [] rfl (own_heap (W := wr.alloc (.cells #[] 9)) rfl (own_nil wr _ (Nat.le_refl _) 9)) A n c es rfl HLEN.out (HR.out _ (by repeat (first | exact Below.refl _ _ | refine up_drew ?_ | refine up_alloc ?_ _))) HONE.out (by have := HNE.out; omega) (by decide) (Below.size (by repeat (first | exact Below.refl _ _ | refine up_drew ?_ | refine up_alloc ?_ _))) n (by omega) es (by simp) ?_); intro g2 c2 w4 hown hgrow hbel hat; have HB4 : Hid (Below wr.heap.size wr w4) := Below.trans (by repeat (first | exact Below.refl _ _ | refine up_drew ?_ | refine up_alloc ?_ _)) hbel; have HO4 := Lib.hid hown; obtain ⟨d43, d4w⟩ := HE.out w4 HB4.out; clear hown hgrow hbel hat)
        | ((refine step_append_row _ rfl _ _ 33 rfl wr.heap.size 9 i0 (.string ⟨#[]⟩) 16 Tryd.underlying33 hi0 hz0 hz1 hz2 rfl _ n c2 es rfl (own_heap (W := w4.alloc (.cells #[.string (St x)] 9)) rfl (World.ownsRow.alloc HO4.out _)) (some ⟨_, 0, none⟩) 1 1 [.string (St x)] rfl rfl (row_one (block_cell (block_new w4 _) 0)) (by simp [Value.oneCell']) (by have := HNE.out; omega) (by decide) (Below.size (by repeat (first | exact HB4.out | refine up_drew ?_ | refine up_alloc ?_ _))) (n + 1) rfl es2 HREV.out ?_); intro g3 c3 w5 hown hgrow hbel hat; have HB5 : Hid (Below wr.heap.size wr w5) := Below.trans (by repeat (first | exact HB4.out | refine up_drew ?_ | refine up_alloc ?_ _)) hbel; have HO5 := Lib.hid hown; obtain ⟨d53, d5w⟩ := HE.out w5 HB5.out; clear hown hgrow hbel hat)
        | ((refine step_append_row _ rfl _ _ 33 rfl wr.heap.size 9 i0 (.string ⟨#[]⟩) 16 Tryd.underlying33 hi0 hz0 hz1 hz2 rfl _ n c2 es rfl (own_heap (W := w4) rfl HO4.out) (some ⟨_, 0, none⟩) 1 1 [.string (St x)] rfl rfl (row_one kc) (by simp [Value.oneCell']) (by have := HNE.out; omega) (by decide) (Below.size (by repeat (first | exact HB4.out | refine up_drew ?_ | refine up_alloc ?_ _))) (n + 1) rfl es2 HREV.out ?_); intro g3 c3 w5 hown hgrow hbel hat; have HB5 : Hid (Below wr.heap.size wr w5) := Below.trans (by repeat (first | exact HB4.out | refine up_drew ?_ | refine up_alloc ?_ _)) hbel; have HO5 := Lib.hid hown; obtain ⟨d53, d5w⟩ := HE.out w5 HB5.out; clear hown hgrow hbel hat)
        | ((refine step_append_row _ rfl _ _ 33 rfl wr.heap.size 9 i0 (.string ⟨#[]⟩) 16 Tryd.underlying33 hi0 hz0 hz1 hz2 rfl _ 0 0 [] rfl (own_heap (W := (wr.alloc (.cells #[] 9)).alloc (.cells #[.string (St x)] 9)) rfl (World.ownsRow.alloc (own_nil wr _ (Nat.le_refl _) 9) _)) A n c es rfl HLEN.out (HR.out _ (by repeat (first | exact Below.refl _ _ | refine up_drew ?_ | refine up_alloc ?_ _))) HONE.out (by have := HNE.out; omega) (by decide) (Below.size (by repeat (first | exact Below.refl _ _ | refine up_drew ?_ | refine up_alloc ?_ _))) n (by omega) es (by simp) ?_); intro g2 c2 w4 hown hgrow hbel hat; have HB4 : Hid (Below wr.heap.size wr w4) := Below.trans (by repeat (first | exact Below.refl _ _ | refine up_drew ?_ | refine up_alloc ?_ _)) hbel; have HO4 := Lib.hid hown; obtain ⟨d43, d4w⟩ := HE.out w4 HB4.out; have kc : w4.cell? ⟨wr.heap.size + 1, 0, none⟩ = some (.string (St x)) := block_cell (cs := #[.string (St x)]) (t := 9) (fr := (0, 0)) ((hgrow.block (wr.heap.size + 1) (by simp <;> omega) (by simp <;> omega)).trans (new2 wr (.cells #[] 9) (.cells #[.string (St x)] 9))) 0; clear hown hgrow hbel hat)
        | ((refine step_append_row _ rfl _ _ 33 rfl wr.heap.size 9 i0 (.string ⟨#[]⟩) 16 Tryd.underlying33 hi0 hz0 hz1 hz2 rfl _ 0 0 [] rfl (own_heap (W := (wr.alloc (.cells #[.string (St x)] 9)).alloc (.cells #[] 9)) rfl (own_nilH (wr.alloc (.cells #[.string (St x)] 9)) _ (by simp) 9 (wr.heap.size + 1) (by simp))) A n c es rfl HLEN.out (HR.out _ (by repeat (first | exact Below.refl _ _ | refine up_drew ?_ | refine up_alloc ?_ _))) HONE.out (by have := HNE.out; omega) (by decide) (Below.size (by repeat (first | exact Below.refl _ _ | refine up_drew ?_ | refine up_alloc ?_ _))) n (by omega) es (by simp) ?_); intro g2 c2 w4 hown hgrow hbel hat; have HB4 : Hid (Below wr.heap.size wr w4) := Below.trans (by repeat (first | exact Below.refl _ _ | refine up_drew ?_ | refine up_alloc ?_ _)) hbel; have HO4 := Lib.hid hown; obtain ⟨d43, d4w⟩ := HE.out w4 HB4.out; have kc : w4.cell? ⟨wr.heap.size, 0, none⟩ = some (.string (St x)) := block_cell (cs := #[.string (St x)]) (t := 9) (fr := (0, 0)) ((hgrow.block wr.heap.size (by simp <;> omega) (by simp <;> omega)).trans (old2 wr (.cells #[.string (St x)] 9) (.cells #[] 9))) 0; clear hown hgrow hbel hat))
        all_goals go_wp2
        all_goals go_ret
        all_goals exact ⟨congrArg (fun z => Ending.returned (.string z)) HST.out, HN6.out, HG6.out⟩
      · obtain ⟨m, rfl⟩ : ∃ m, gk = m + 1 := ⟨gk - 1, by omega⟩
        have hdec : decide (x ∈ fs) = true := decide_eq_true (by rw [hx]; exact HFI.out j hkj (by omega))
        have HI := Lib.hid (HIT.out wr nx (by omega) HN.out)
        have hw1 : IntKind.i64.wrap ((nx : Int) + 1) = (nx : Int) + 1 := by rw [IntKind.wrap_i64]; omega
        have HR : Hid (nx + m = q ∧ k ≤ nx) := ⟨by omega, by omega⟩
        have hdl : (decL nx).length ≤ 9 := by have := decL_len 8 nx (by omega); omega
        have q1 : ¬ 9223372036854775807 < 1 + (decL nx).length := by omega
        clear hx hnx hm hkj hq hxn hjq HX
        go_wp2_with (first
          | (go_at_call 92; (with_reducible refine HC.out.mono ?_); rintro e w2 ⟨rfl, rfl⟩)
          | (go_at_call 104; (with_reducible refine HI.out.mono ?_); rintro e w2 ⟨rfl, hb2⟩; have HN2 := Lib.hid (HN.out.up hb2); have HG2 := Lib.hid (grow_up2 HG.out hb2); obtain ⟨fw, ff, fn, fz, fl⟩ := HF.out w2 nx HN2.out; clear hb2))
        go_roundg m
        case measure => omega
        case rel => exact ⟨tN nx, nx + 1, congrArg Value.string (cat116 _), .inr ⟨nx, rfl, rfl, HR.out⟩, HN2.out.next.1, grow_grow HG2.out HN2.out.next.2 (.inl rfl)⟩

end Go.Proofs.YtkciljcligohnaaDoor
