/- The program's canon: the names that its closure gives. The program's put and opened. The program's canon and told; TypeCanon. -/
import Derived.Test.YtpokompplapkhaaGreatDoorMH
import Derived.Test.YtpokompplapkhaaGreatDoorMF
import Derived.Test.YtpokompplapkhaaGreatDoorTk
import Derived.Test.YtpokompplapkhaaGreatDoorMI
import Derived.Lib.AppendIntMem
import Derived.Lib.LaidTab
import Derived.Test.YtpokompplapkhaaGreatDoorME
import Derived.Laws.EntriesVeiled
namespace Go.Proofs.YtpokompplapkhaaGreatDoor
open Go.RowKit
set_option linter.unusedVariables false
set_option linter.unusedSimpArgs false
/-- The world in which canon's closure runs: its own variable, the free names, the next number, strconv's table. -/
structure CN (w : World) (B bw bf bn : Nat) (F : Option Addr) (cF : Nat) (fs : List (List UInt8)) (k : Nat) : Prop where
  hw : w.heap[bw]? = some (.cells #[.func (.func 176) #[] #[.pointer (some ⟨bw, 0, none⟩), .pointer (some ⟨bf, 0, none⟩), .pointer (some ⟨bn, 0, none⟩)]] 210 (0, 0))
  hf : w.heap[bf]? = some (.cells #[.slice F fs.length cF] 38 (0, 0))
  hn : w.heap[bn]? = some (.cells #[.int .i64 k] 3 (0, 0))
  hF : SFar w F bn fs
  tab : TabB B w
  le : B ≤ bn
  ne1 : bw ≠ bn
  ne2 : bf ≠ bn
theorem CN.grown {w w1 : World} {B bw bf bn : Nat} {F : Option Addr} {cF : Nat} {fs : List (List UInt8)} {k k1 : Nat} (h : CN w B bw bf bn F cF fs k) (hg : w.grownBy w1 (some bn)) (hn : w1.heap[bn]? = some (.cells #[.int .i64 k1] 3 (0, 0))) : CN w1 B bw bf bn F cF fs k1 where
  hw := (hg.block bw (lt_of_block h.hw) (by simp; exact h.ne1)).trans h.hw
  hf := (hg.block bf (lt_of_block h.hf) (by simp; exact h.ne2)).trans h.hf
  hn := hn
  hF := h.hF.grown hg (.inl rfl)
  tab := h.tab.below ((Below.refl B w).grown hg (by have := lt_of_block h.hn; have := h.le; omega) (fun k hk => by cases hk; exact h.le))
  le := h.le
  ne1 := h.ne1
  ne2 := h.ne2
theorem CN.up {w w1 : World} {B bw bf bn : Nat} {F : Option Addr} {cF : Nat} {fs : List (List UInt8)} {k : Nat} (h : CN w B bw bf bn F cF fs k) (hb : Below w.heap.size w w1) : CN w1 B bw bf bn F cF fs k :=
  h.grown (below_grow hb) (block_up hb h.hn)
theorem CN.keeps {w w1 : World} {B bw bf bn : Nat} {F : Option Addr} {cF : Nat} {fs : List (List UInt8)} {k : Nat} (h : CN w B bw bf bn F cF fs k) (hg : w.grownBy w1 (some bn)) : Keeps 124 w w1 := fun j cs fr hj => by
  rw [hg.block j (lt_of_block hj) (by
    simp
    rintro rfl
    rw [h.hn] at hj
    simp at hj), hj]
theorem CN.next {w : World} {B bw bf bn : Nat} {F : Option Addr} {cF : Nat} {fs : List (List UInt8)} {k : Nat} (h : CN w B bw bf bn F cF fs k) : CN (w.setCell ⟨bn, 0, none⟩ (.int .i64 ((k : Int) + 1))) B bw bf bn F cF fs (k + 1) ∧ w.grownBy (w.setCell ⟨bn, 0, none⟩ (.int .i64 ((k : Int) + 1))) (some bn) := by
  have hg : w.grownBy (w.setCell ⟨bn, 0, none⟩ (.int .i64 ((k : Int) + 1))) (some bn) := ⟨rfl, rfl, rfl, by simp [World.setCell], fun j hj hne => Below.heap_setCell w ⟨bn, 0, none⟩ _ j (by simpa using hne)⟩
  refine ⟨h.grown hg ?_, hg⟩
  exact block_set h.hn 0 _

/-- Free names are short. -/
def Ty.nmle : Ty → Prop
  | .name s => s.length ≤ 10
  | .sum a b => a.nmle ∧ b.nmle
  | .prod a b => a.nmle ∧ b.nmle
  | .loop a => a.nmle
  | _ => True
theorem tN_len10 (j : Nat) (h : j < 100000000) : (tN j).length ≤ 10 := (tN_ok j h).2.2.2.2
theorem cw_len (fs : List (List UInt8)) : ∀ (t : Ty) (ar : List (List UInt8)) (k : Nat), t.nmle → (∀ s ∈ ar, s.length ≤ 10) → k + t.atoms * (fs.length + 1) ≤ 10000000 →
    (t.cw fs ar k).1.length ≤ 12 * t.atoms ∧ k ≤ (t.cw fs ar k).2 ∧ (t.cw fs ar k).2 ≤ k + t.atoms * (fs.length + 1)
  | .zero, _, k, _, _, _ => ⟨by simp [Ty.cw, Ty.atoms], Nat.le_refl _, by simp [Ty.cw]⟩
  | .one, _, k, _, _, _ => ⟨by simp [Ty.cw, Ty.atoms], Nat.le_refl _, by simp [Ty.cw]⟩
  | .name s, _, k, h, _, _ => ⟨by simp only [Ty.cw, Ty.atoms]; have : s.length ≤ 10 := h; omega, Nat.le_refl _, by simp [Ty.cw]⟩
  | .bound i, ar, k, _, h, _ => ⟨by
      simp only [Ty.cw, Ty.atoms]
      cases hi : ar[i]? with
      | none => simp
      | some s => have := h s (List.mem_of_getElem? hi); simp; omega, Nat.le_refl _, by simp [Ty.cw]⟩
  | .sum a b, ar, k, h, har, hk => by
    simp only [Ty.atoms, Nat.add_mul] at hk ⊢
    obtain ⟨h1, h2, h3⟩ := cw_len fs a ar k h.1 har (by omega)
    obtain ⟨h4, h5, h6⟩ := cw_len fs b ar (a.cw fs ar k).2 h.2 har (by omega)
    simp only [Ty.cw, List.length_append, List.length_cons, List.length_nil]
    refine ⟨by omega, by omega, by omega⟩
  | .prod a b, ar, k, h, har, hk => by
    simp only [Ty.atoms, Nat.add_mul] at hk ⊢
    obtain ⟨h1, h2, h3⟩ := cw_len fs a ar k h.1 har (by omega)
    obtain ⟨h4, h5, h6⟩ := cw_len fs b ar (a.cw fs ar k).2 h.2 har (by omega)
    simp only [Ty.cw, List.length_append, List.length_cons, List.length_nil]
    refine ⟨by omega, by omega, by omega⟩
  | .loop a, ar, k, h, har, hk => by
    simp only [Ty.atoms, Nat.add_mul] at hk ⊢
    have hf := fresh_le fs fs.length k
    have hfr : k ≤ freshN fs k ∧ freshN fs k ≤ k + fs.length := hf
    have htn := tN_len10 (freshN fs k) (by omega)
    obtain ⟨h1, h2, h3⟩ := cw_len fs a (tN (freshN fs k) :: ar) (freshN fs k + 1) h (by
      intro s hs
      rcases List.mem_cons.1 hs with rfl | hs
      · exact htn
      · exact har s hs) (by omega)
    simp only [Ty.cw, List.length_append, List.length_cons, List.length_nil]
    refine ⟨by omega, by omega, by omega⟩

/-- What the closure does. -/
def CPost (w : World) (B bw bf bn : Nat) (F : Option Addr) (cF : Nat) (fs : List (List UInt8)) (r : List UInt8 × Nat) (e : Ending) (w' : World) : Prop :=
  e = .returned (.string (St r.1)) ∧ CN w' B bw bf bn F cF fs r.2 ∧ w.grownBy w' (some bn)
def LC (fs : List (List UInt8)) (t : Ty) : Prop := ∀ (w : World) (p A : Option Addr) (c : Nat) (ar : List (List UInt8)) (B bw bf bn : Nat) (F : Option Addr) (cF k : Nat),
  TyAt w t p → CN w B bw bf bn F cF fs k → SFar w A bn ar.reverse → t.scoped ar.length → ar.length + t.atoms ≤ 2000 → k + t.atoms * (fs.length + 1) ≤ 10000000 → t.nmle → (∀ s ∈ ar, s.length ≤ 10) →
  Calls Tryz.prog 176 #[.pointer p, .slice A ar.length c, .pointer (some ⟨bw, 0, none⟩), .pointer (some ⟨bf, 0, none⟩), .pointer (some ⟨bn, 0, none⟩)] w (CPost w B bw bf bn F cF fs (t.cw fs ar k))

set_option maxHeartbeats 4000000 in
set_option maxRecDepth 100000 in
theorem canW_digit (fs : List (List UInt8)) (z : Int) (hz : z = 48 ∨ z = 49) (w : World) (p A : Option Addr) (m c : Nat) (B bw bf bn : Nat) (F : Option Addr) (cF k : Nat) (hp : TyN w p z [] 0 none none) (h : CN w B bw bf bn F cF fs k) :
    Calls Tryz.prog 176 #[.pointer p, .slice A m c, .pointer (some ⟨bw, 0, none⟩), .pointer (some ⟨bf, 0, none⟩), .pointer (some ⟨bn, 0, none⟩)] w (CPost w B bw bf bn F cF fs ([UInt8.ofNat z.toNat], k)) := by
  obtain ⟨g, rfl, hb⟩ := hp
  have e0 : w.cell? ⟨g, 0, none⟩ = some (.int .u8 z) := block_cell hb 0
  have H := Lib.hid h
  clear h hb
  have kc : ∀ (W : World) (z : Int), (convert 35 9 (.slice (some ⟨W.heap.size, 0, none⟩) 1 1)).run Tryz.prog (W.alloc (.cells #[.int .u8 z] 5)) = .ok (.string (strOfNums [z])) (W.alloc (.cells #[.int .u8 z] 5)) := fun W z =>
    run_convert_bytes_arg (P := Tryz.prog) _ 35 5 Tryz.underlying35 Tryz.underlying5 W.heap.size 0 1 1 [_] rfl (fun i hi => by
      obtain rfl : i = 0 := by omega
      exact block_cell (block_new W _) 0) 9 Tryz.underlying9
  rcases hz with rfl | rfl
  · go_enter Tryz.func176, Tryz.ntmps176
    go_wp2
    go_ret
    exact ⟨rfl, H.out.up (up1 w _), below_grow (up1 w _)⟩
  · go_enter Tryz.func176, Tryz.ntmps176
    go_wp2
    go_ret
    exact ⟨rfl, H.out.up (up1 w _), below_grow (up1 w _)⟩

set_option maxHeartbeats 4000000 in
set_option maxRecDepth 100000 in
theorem canW_name (fs : List (List UInt8)) (s : List UInt8) : LC fs (.name s) := by
  intro w p A c ar B bw bf bn F cF k hp h hA hsc h1 h2 hnm har
  obtain ⟨g, rfl, hb⟩ := hp
  have e0 : w.cell? ⟨g, 0, none⟩ = some (.int .u8 110) := block_cell hb 0
  have e1 : w.cell? ⟨g, 1, none⟩ = some (.string (St s)) := block_cell hb 1
  have H := Lib.hid h
  clear h hb hA hsc h1 h2 hnm har
  go_enter Tryz.func176, Tryz.ntmps176
  go_wp2
  go_ret
  exact ⟨rfl, H.out, below_grow (Below.refl _ _)⟩

set_option maxHeartbeats 4000000 in
set_option maxRecDepth 100000 in
theorem canW_bound (fs : List (List UInt8)) (i : Nat) : LC fs (.bound i) := by
  intro w p A c ar B bw bf bn F cF k hp h hA hsc h1 h2 hnm har
  have hsc : i < ar.length := hsc
  obtain ⟨g, rfl, hb⟩ := hp
  have e0 : w.cell? ⟨g, 0, none⟩ = some (.int .u8 98) := block_cell hb 0
  have e2 : w.cell? ⟨g, 2, none⟩ = some (.int .i64 i) := block_cell hb 2
  have hget : ar.reverse[ar.length - 1 - i]? = some ar[i] := by
    rw [List.getElem?_reverse (by omega), List.getElem?_eq_getElem (by omega)]
    congr 2
    omega
  rcases hA with hA | ⟨b, o, rfl, _, _, hA⟩
  · rw [hA] at hget
    simp at hget
  have hc := hA _ _ hget
  have hres : (Ty.cw fs (.bound i) ar k) = (ar[i], k) := by simp [Ty.cw, hsc]
  rw [hres]
  simp only [Ty.atoms] at h1
  have hw1 : IntKind.i64.wrap ((ar.length : Int) - 1) = (ar.length : Int) - 1 := by rw [IntKind.wrap_i64]; omega
  have hw2 : IntKind.i64.wrap ((ar.length : Int) - 1 - (i : Int)) = ((ar.length - 1 - i : Nat) : Int) := by rw [IntKind.wrap_i64]; omega
  have hlt : ar.length - 1 - i < ar.length := by omega
  have H := Lib.hid h
  clear h hb hA hget hres h2 h1 hnm har
  generalize ar[i] = x at *
  generalize ar.length - 1 - i = j at *
  clear hsc
  generalize ar.length = m at *
  go_enter Tryz.func176, Tryz.ntmps176
  go_wp2
  go_ret
  exact ⟨rfl, H.out, below_grow (Below.refl _ _)⟩

set_option maxHeartbeats 4000000 in
set_option maxRecDepth 100000 in
theorem canW_two (fs : List (List UInt8)) (sg : Int) (hsg : sg = 43 ∨ sg = 42) (w : World) (g : Nat) (pa pb A : Option Addr) (m c : Nat) (B bw bf bn : Nat) (F : Option Addr) (cF k k1 k2 : Nat) (ra rb : List UInt8) (hra : ra.length ≤ 1000000) (hrb : rb.length ≤ 1000000)
    (hb : w.heap[g]? = some (.cells #[.int .u8 sg, .string (St []), .int .i64 0, .pointer pa, .pointer pb] 124 (0, 0))) (h : CN w B bw bf bn F cF fs k)
    (iha : ∀ w1 : World, Below w.heap.size w w1 → Calls Tryz.prog 176 #[.pointer pa, .slice A m c, .pointer (some ⟨bw, 0, none⟩), .pointer (some ⟨bf, 0, none⟩), .pointer (some ⟨bn, 0, none⟩)] w1 (CPost w1 B bw bf bn F cF fs (ra, k1)))
    (ihb : ∀ w1 : World, CN w1 B bw bf bn F cF fs k1 → w.grownBy w1 (some bn) → Calls Tryz.prog 176 #[.pointer pb, .slice A m c, .pointer (some ⟨bw, 0, none⟩), .pointer (some ⟨bf, 0, none⟩), .pointer (some ⟨bn, 0, none⟩)] w1 (CPost w1 B bw bf bn F cF fs (rb, k2))) :
    Calls Tryz.prog 176 #[.pointer (some ⟨g, 0, none⟩), .slice A m c, .pointer (some ⟨bw, 0, none⟩), .pointer (some ⟨bf, 0, none⟩), .pointer (some ⟨bn, 0, none⟩)] w (CPost w B bw bf bn F cF fs ([40, UInt8.ofNat sg.toNat, 32] ++ ra ++ [32] ++ rb ++ [41], k2)) := by
  have IHA := Lib.hid iha
  have IHB := Lib.hid ihb
  have H := Lib.hid h
  have HC : Hid (∀ w1, w.grownBy w1 (some bn) → w1.cell? ⟨g, 0, none⟩ = some (.int .u8 sg) ∧ w1.cell? ⟨g, 3, none⟩ = some (.pointer pa) ∧ w1.cell? ⟨g, 4, none⟩ = some (.pointer pb)) := fun w1 hg => by
    have := h.keeps hg _ _ _ hb
    exact ⟨block_cell this 0, block_cell this 3, block_cell this 4⟩
  have HF : Hid (∀ (w1 : World) k, CN w1 B bw bf bn F cF fs k → w1.cell? ⟨bw, 0, none⟩ = some (.func (.func 176) #[] #[.pointer (some ⟨bw, 0, none⟩), .pointer (some ⟨bf, 0, none⟩), .pointer (some ⟨bn, 0, none⟩)])) := fun w1 k h => block_cell h.hw 0
  obtain ⟨c0, c3, c4⟩ := HC.out w (World.grownBy.refl _ _)
  have cw := HF.out w k h
  have hsz : ∀ z, (strOfNums [z]).size = 1 := fun z => strOfNums_size _
  have kc : ∀ (W : World) (g : Nat) (z : Int), W.cell? ⟨g, 0, none⟩ = some (.int .u8 z) → (convert 35 9 (.slice (some ⟨g, 0, none⟩) 1 1)).run Tryz.prog W = .ok (.string (strOfNums [z])) W := fun W g z hc =>
    run_convert_bytes_arg (P := Tryz.prog) _ 35 5 Tryz.underlying35 Tryz.underlying5 g 0 1 1 [_] rfl (fun i hi => by
      obtain rfl : i = 0 := by omega
      exact hc) 9 Tryz.underlying9
  have kd : ∀ (W : World) (z : Int), (convert 35 9 (.slice (some ⟨W.heap.size, 0, none⟩) 1 1)).run Tryz.prog (W.alloc (.cells #[.int .u8 z] 5)) = .ok (.string (strOfNums [z])) (W.alloc (.cells #[.int .u8 z] 5)) := fun W z => kc _ _ _ (block_cell (block_new W _) 0)
  have ke : ∀ (W : World) (z : Int), (convert 35 9 (.slice (some ⟨W.heap.size, 0, none⟩) 1 1)).run Tryz.prog (W.alloc (.cells #[.int .u8 z] 5)).drew = .ok (.string (strOfNums [z])) (W.alloc (.cells #[.int .u8 z] 5)).drew := fun W z => kc _ _ _ (block_cell (block_new W _) 0)
  obtain ⟨res, hres⟩ : ∃ res, res = ([40, UInt8.ofNat sg.toNat, 32] ++ ra ++ [32] ++ rb ++ [41]) := ⟨_, rfl⟩
  rw [← hres]
  have HST : Hid ((⟨#[40]⟩ : ByteArray) ++ strOfNums [sg] ++ ⟨#[32]⟩ ++ St ra ++ ⟨#[32]⟩ ++ St rb ++ ⟨#[41]⟩ = St res) := by
    show _ = _
    rw [hres]
    rcases hsg with rfl | rfl <;> (apply ByteArray.ext; simp [ByteArray.data_append, strOfNums])
  have q1 : ¬ 9223372036854775807 < 3 + ra.length := by omega
  have q2 : ¬ 9223372036854775807 < 3 + ra.length + 1 := by omega
  have q3 : ¬ 9223372036854775807 < 3 + ra.length + 1 + rb.length := by omega
  have q4 : ¬ 9223372036854775807 < 3 + ra.length + 1 + rb.length + 1 := by omega
  clear iha ihb h hb hra hrb hres
  rcases hsg with rfl | rfl
  · go_enter Tryz.func176, Tryz.ntmps176
    go_wp2
    go_region_held3 (fun w' => w'.cell? ⟨g, 0, none⟩ = some (.int .u8 43) ∧ w'.cell? ⟨g, 3, none⟩ = some (.pointer pa) ∧ w'.cell? ⟨g, 4, none⟩ = some (.pointer pb) ∧ w'.cell? ⟨bw, 0, none⟩ = some (.func (.func 176) #[] #[.pointer (some ⟨bw, 0, none⟩), .pointer (some ⟨bf, 0, none⟩), .pointer (some ⟨bn, 0, none⟩)]))
      (first | exact ⟨d0, d3, d4, dw⟩ | exact ⟨c0, c3, c4, cw⟩ | go_keep)
      ((go_at_call 176; refine (IHA.out _ (by first | exact Below.refl _ _ | exact up_drew (Below.refl _ _))).mono ?_; rintro e w2 ⟨rfl, hcn, hg⟩; have HN2 := Lib.hid hcn; have HG2 : Hid (w.grownBy w2 (some bn)) := (by first | exact hg | exact up_grow (up_drew (Below.refl _ _)) hg); obtain ⟨d0, d3, d4⟩ := HC.out w2 HG2.out; have dw := HF.out w2 _ HN2.out; have lg2 := World.block_lt_of_cell? w2 _ d0; have lw2 := World.block_lt_of_cell? w2 _ dw; clear hcn hg))
    all_goals go_wp2
    refine wp_region_noPanic ?_
    refine wp_region_held_drew (S := (fun w' => w'.cell? ⟨g, 0, none⟩ = some (.int .u8 43) ∧ w'.cell? ⟨g, 4, none⟩ = some (.pointer pb) ∧ w'.cell? ⟨bw, 0, none⟩ = some (.func (.func 176) #[] #[.pointer (some ⟨bw, 0, none⟩), .pointer (some ⟨bf, 0, none⟩), .pointer (some ⟨bn, 0, none⟩)]))) (by kernel_rfl) (by exact ⟨d0, d4, dw⟩) (fun hHeld => ?_)
    refine tk 0 ?_ rfl ?_ ?_
    rotate_left
    · intro W hSW; (try dsimp only at hSW); go_simp; try with_reducible rfl
    try simp only [Act.put, zA, zB, zC, zD, zE, zF]
    refine tk 1 ?_ rfl ?_ ?_
    rotate_left
    · intro W hSW; (try dsimp only at hSW); go_simp; try with_reducible rfl
    try simp only [Act.put, zA, zB, zC, zD, zE, zF]
    refine tk 2 ?_ rfl ?_ ?_
    rotate_left
    · intro W hSW; (try dsimp only at hSW); go_simp; try with_reducible rfl
    try simp only [Act.put, zA, zB, zC, zD, zE, zF]
    refine tk 3 ?_ rfl ?_ ?_
    rotate_left
    · intro W hSW; (try dsimp only at hSW); go_simp; try with_reducible rfl
    try simp only [Act.put, zA, zB, zC, zD, zE, zF]
    refine tk 8 ?_ rfl ?_ ?_
    rotate_left
    · intro W hSW; (try dsimp only at hSW); go_simp; try with_reducible rfl
    try simp only [Act.put, zA, zB, zC, zD, zE, zF]
    refine tk 11 ?_ rfl ?_ ?_
    rotate_left
    · intro W hSW; (try dsimp only at hSW); go_simp; try with_reducible rfl
    try simp only [Act.put, zA, zB, zC, zD, zE, zF]
    refine tk 12 ?_ rfl ?_ ?_
    rotate_left
    · intro W hSW; (try dsimp only at hSW); go_simp; try with_reducible rfl
    try simp only [Act.put, zA, zB, zC, zD, zE, zF]
    refine tk 13 ?_ rfl ?_ ?_
    rotate_left
    · intro W hSW; (try dsimp only at hSW); go_simp; try with_reducible rfl
    try simp only [Act.put, zA, zB, zC, zD, zE, zF]
    refine tk 14 ?_ rfl ?_ ?_
    rotate_left
    · intro W hSW; (try dsimp only at hSW); go_simp; try with_reducible rfl
    try simp only [Act.put, zA, zB, zC, zD, zE, zF]
    refine tk 15 ?_ rfl ?_ ?_
    rotate_left
    · intro W hSW; (try dsimp only at hSW); go_simp; try with_reducible rfl
    try simp only [Act.put, zA, zB, zC, zD, zE, zF]
    refine tk 16 ?_ rfl ?_ ?_
    rotate_left
    · intro W hSW; (try dsimp only at hSW); go_simp; try with_reducible rfl
    try simp only [Act.put, zA, zB, zC, zD, zE, zF]
    refine wpAnyH_ready (rs := [4, 17]) (by kernel_rfl) (by simp) ?_
    refine AllReadyH.cons rfl (fun K hK => ?_) (AllReadyH.cons rfl (fun K hK => ?_) AllReadyH.nil)
    · go_simp
      refine hK.out _ _ (by exact ⟨cell_up (up1 w2 _) d0, cell_up (up1 w2 _) d4, cell_up (up1 w2 _) dw⟩) (fun hHeld => ?_)
      clear hK
      try simp only [Act.put, zA, zB, zC, zD, zE, zF]
      refine wpAnyH_more (C := fun W => W.cell? ⟨w2.heap.size, 0, none⟩ = some (.int .u8 43)) (by assumption) (by exact block_cell (block_new w2 _) 0) (fun hHeld2 => ?_)
      clear hHeld
      refine tk 5 ?_ rfl ?_ ?_
      rotate_left
      · intro W hSW; (try dsimp only at hSW); go_simp; try with_reducible rfl
      try simp only [Act.put, zA, zB, zC, zD, zE, zF]
      refine tk 6 ?_ rfl ?_ ?_
      rotate_left
      · intro W hSW; (try dsimp only at hSW); go_simp; try with_reducible rfl
      try simp only [Act.put, zA, zB, zC, zD, zE, zF]
      refine tk 7 ?_ rfl ?_ ?_
      rotate_left
      · intro W hSW; (try dsimp only at hSW); go_simp; try with_reducible rfl
      try simp only [Act.put, zA, zB, zC, zD, zE, zF]
      refine tk 9 ?_ rfl ?_ ?_
      rotate_left
      · intro W hSW; (try dsimp only at hSW); go_simp; try with_reducible rfl
      try simp only [Act.put, zA, zB, zC, zD, zE, zF]
      refine tk 10 ?_ rfl ?_ ?_
      rotate_left
      · intro W hSW; (try dsimp only at hSW); go_simp; try with_reducible rfl
      try simp only [Act.put, zA, zB, zC, zD, zE, zF]
      refine wpAnyH_ready (rs := [17]) (by kernel_rfl) (by simp) ?_
      refine AllReadyH.cons rfl (fun K hK => ?_) AllReadyH.nil
      go_simp
      go_at_call 176
      (refine (IHB.out _ (HN2.out.up (by repeat (first | exact Below.refl _ _ | refine up_drew ?_ | refine up_alloc ?_ _))) (grow_up2 HG2.out (by repeat (first | exact Below.refl _ _ | refine up_drew ?_ | refine up_alloc ?_ _)))).mono ?_)
      rintro e w3 ⟨rfl, hcn, hg⟩
      have HN3 := Lib.hid hcn
      have HG3 : Hid (w.grownBy w3 (some bn)) := grow_grow (grow_up2 HG2.out (by repeat (first | exact Below.refl _ _ | refine up_drew ?_ | refine up_alloc ?_ _))) hg (.inl rfl)
      obtain ⟨f0, f3, f4⟩ := HC.out w3 HG3.out
      have fw := HF.out w3 _ HN3.out
      have lg3 := World.block_lt_of_cell? w3 _ f0
      have dk : w3.cell? ⟨w2.heap.size, 0, none⟩ = some (.int .u8 43) := hg.cell (block_cell (block_new w2 _) 0) (by have := lt_of_block HN2.out.hn; simp; omega)
      clear hcn hg
      refine hK.out _ _ (by exact ⟨⟨f0, f4, fw⟩, dk⟩) (fun hHeld => ?_)
      clear hK
      try simp only [Act.put, zA, zB, zC, zD, zE, zF]
      clear hHeld2
      refine tk 18 ?_ rfl ?_ ?_
      rotate_left
      · intro W hSW; (try dsimp only at hSW); go_simp; try with_reducible rfl
      try simp only [Act.put, zA, zB, zC, zD, zE, zF]
      refine tk 19 ?_ rfl ?_ ?_
      rotate_left
      · intro W hSW; (try dsimp only at hSW); go_simp; try with_reducible rfl
      try simp only [Act.put, zA, zB, zC, zD, zE, zF]
      refine tk 20 ?_ rfl ?_ ?_
      rotate_left
      · intro W hSW; (try dsimp only at hSW); go_simp; try with_reducible rfl
      try simp only [Act.put, zA, zB, zC, zD, zE, zF]
      refine wpAnyH_done (by kernel_rfl) ?_ _
      refine NoPanic.normal ?_
      go_wp2
      go_ret
      exact ⟨congrArg (fun z => Ending.returned (.string z)) HST.out, HN3.out, HG3.out⟩
    · go_simp
      go_at_call 176
      (refine (IHB.out _ (HN2.out.up (by repeat (first | exact Below.refl _ _ | refine up_drew ?_ | refine up_alloc ?_ _))) (grow_up2 HG2.out (by repeat (first | exact Below.refl _ _ | refine up_drew ?_ | refine up_alloc ?_ _)))).mono ?_)
      rintro e w3 ⟨rfl, hcn, hg⟩
      have HN3 := Lib.hid hcn
      have HG3 : Hid (w.grownBy w3 (some bn)) := grow_grow (grow_up2 HG2.out (by repeat (first | exact Below.refl _ _ | refine up_drew ?_ | refine up_alloc ?_ _))) hg (.inl rfl)
      obtain ⟨f0, f3, f4⟩ := HC.out w3 HG3.out
      have fw := HF.out w3 _ HN3.out
      have lg3 := World.block_lt_of_cell? w3 _ f0
      clear hcn hg
      refine hK.out _ _ (by exact ⟨f0, f4, fw⟩) (fun hHeld => ?_)
      clear hK
      try simp only [Act.put, zA, zB, zC, zD, zE, zF]
      refine wpAnyH_ready (rs := [4]) (by kernel_rfl) (by simp) ?_
      refine AllReadyH.cons rfl (fun K hK => ?_) AllReadyH.nil
      go_simp
      refine hK.out _ _ (by exact ⟨cell_up (up1 w3 _) f0, cell_up (up1 w3 _) f4, cell_up (up1 w3 _) fw⟩) (fun hHeld => ?_)
      clear hK
      try simp only [Act.put, zA, zB, zC, zD, zE, zF]
      refine wpAnyH_more (C := fun W => W.cell? ⟨w3.heap.size, 0, none⟩ = some (.int .u8 43)) (by assumption) (by exact block_cell (block_new w3 _) 0) (fun hHeld2 => ?_)
      clear hHeld
      refine tk 5 ?_ rfl ?_ ?_
      rotate_left
      · intro W hSW; (try dsimp only at hSW); go_simp; try with_reducible rfl
      try simp only [Act.put, zA, zB, zC, zD, zE, zF]
      refine tk 6 ?_ rfl ?_ ?_
      rotate_left
      · intro W hSW; (try dsimp only at hSW); go_simp; try with_reducible rfl
      try simp only [Act.put, zA, zB, zC, zD, zE, zF]
      refine tk 7 ?_ rfl ?_ ?_
      rotate_left
      · intro W hSW; (try dsimp only at hSW); go_simp; try with_reducible rfl
      try simp only [Act.put, zA, zB, zC, zD, zE, zF]
      refine tk 9 ?_ rfl ?_ ?_
      rotate_left
      · intro W hSW; (try dsimp only at hSW); go_simp; try with_reducible rfl
      try simp only [Act.put, zA, zB, zC, zD, zE, zF]
      refine tk 10 ?_ rfl ?_ ?_
      rotate_left
      · intro W hSW; (try dsimp only at hSW); go_simp; try with_reducible rfl
      try simp only [Act.put, zA, zB, zC, zD, zE, zF]
      refine tk 18 ?_ rfl ?_ ?_
      rotate_left
      · intro W hSW; (try dsimp only at hSW); go_simp; try with_reducible rfl
      try simp only [Act.put, zA, zB, zC, zD, zE, zF]
      refine tk 19 ?_ rfl ?_ ?_
      rotate_left
      · intro W hSW; (try dsimp only at hSW); go_simp; try with_reducible rfl
      try simp only [Act.put, zA, zB, zC, zD, zE, zF]
      refine tk 20 ?_ rfl ?_ ?_
      rotate_left
      · intro W hSW; (try dsimp only at hSW); go_simp; try with_reducible rfl
      try simp only [Act.put, zA, zB, zC, zD, zE, zF]
      refine wpAnyH_done (by kernel_rfl) ?_ _
      refine NoPanic.normal ?_
      go_wp2
      go_ret
      exact ⟨congrArg (fun z => Ending.returned (.string z)) HST.out, HN3.out.up (up1 _ _), grow_up2 HG3.out (up1 _ _)⟩
  · go_enter Tryz.func176, Tryz.ntmps176
    go_wp2
    go_region_held3 (fun w' => w'.cell? ⟨g, 0, none⟩ = some (.int .u8 42) ∧ w'.cell? ⟨g, 3, none⟩ = some (.pointer pa) ∧ w'.cell? ⟨g, 4, none⟩ = some (.pointer pb) ∧ w'.cell? ⟨bw, 0, none⟩ = some (.func (.func 176) #[] #[.pointer (some ⟨bw, 0, none⟩), .pointer (some ⟨bf, 0, none⟩), .pointer (some ⟨bn, 0, none⟩)]))
      (first | exact ⟨d0, d3, d4, dw⟩ | exact ⟨c0, c3, c4, cw⟩ | go_keep)
      ((go_at_call 176; refine (IHA.out _ (by first | exact Below.refl _ _ | exact up_drew (Below.refl _ _))).mono ?_; rintro e w2 ⟨rfl, hcn, hg⟩; have HN2 := Lib.hid hcn; have HG2 : Hid (w.grownBy w2 (some bn)) := (by first | exact hg | exact up_grow (up_drew (Below.refl _ _)) hg); obtain ⟨d0, d3, d4⟩ := HC.out w2 HG2.out; have dw := HF.out w2 _ HN2.out; have lg2 := World.block_lt_of_cell? w2 _ d0; have lw2 := World.block_lt_of_cell? w2 _ dw; clear hcn hg))
    all_goals go_wp2
    refine wp_region_noPanic ?_
    refine wp_region_held_drew (S := (fun w' => w'.cell? ⟨g, 0, none⟩ = some (.int .u8 42) ∧ w'.cell? ⟨g, 4, none⟩ = some (.pointer pb) ∧ w'.cell? ⟨bw, 0, none⟩ = some (.func (.func 176) #[] #[.pointer (some ⟨bw, 0, none⟩), .pointer (some ⟨bf, 0, none⟩), .pointer (some ⟨bn, 0, none⟩)]))) (by kernel_rfl) (by exact ⟨d0, d4, dw⟩) (fun hHeld => ?_)
    refine tk 0 ?_ rfl ?_ ?_
    rotate_left
    · intro W hSW; (try dsimp only at hSW); go_simp; try with_reducible rfl
    try simp only [Act.put, zA, zB, zC, zD, zE, zF]
    refine tk 1 ?_ rfl ?_ ?_
    rotate_left
    · intro W hSW; (try dsimp only at hSW); go_simp; try with_reducible rfl
    try simp only [Act.put, zA, zB, zC, zD, zE, zF]
    refine tk 2 ?_ rfl ?_ ?_
    rotate_left
    · intro W hSW; (try dsimp only at hSW); go_simp; try with_reducible rfl
    try simp only [Act.put, zA, zB, zC, zD, zE, zF]
    refine tk 3 ?_ rfl ?_ ?_
    rotate_left
    · intro W hSW; (try dsimp only at hSW); go_simp; try with_reducible rfl
    try simp only [Act.put, zA, zB, zC, zD, zE, zF]
    refine tk 8 ?_ rfl ?_ ?_
    rotate_left
    · intro W hSW; (try dsimp only at hSW); go_simp; try with_reducible rfl
    try simp only [Act.put, zA, zB, zC, zD, zE, zF]
    refine tk 11 ?_ rfl ?_ ?_
    rotate_left
    · intro W hSW; (try dsimp only at hSW); go_simp; try with_reducible rfl
    try simp only [Act.put, zA, zB, zC, zD, zE, zF]
    refine tk 12 ?_ rfl ?_ ?_
    rotate_left
    · intro W hSW; (try dsimp only at hSW); go_simp; try with_reducible rfl
    try simp only [Act.put, zA, zB, zC, zD, zE, zF]
    refine tk 13 ?_ rfl ?_ ?_
    rotate_left
    · intro W hSW; (try dsimp only at hSW); go_simp; try with_reducible rfl
    try simp only [Act.put, zA, zB, zC, zD, zE, zF]
    refine tk 14 ?_ rfl ?_ ?_
    rotate_left
    · intro W hSW; (try dsimp only at hSW); go_simp; try with_reducible rfl
    try simp only [Act.put, zA, zB, zC, zD, zE, zF]
    refine tk 15 ?_ rfl ?_ ?_
    rotate_left
    · intro W hSW; (try dsimp only at hSW); go_simp; try with_reducible rfl
    try simp only [Act.put, zA, zB, zC, zD, zE, zF]
    refine tk 16 ?_ rfl ?_ ?_
    rotate_left
    · intro W hSW; (try dsimp only at hSW); go_simp; try with_reducible rfl
    try simp only [Act.put, zA, zB, zC, zD, zE, zF]
    refine wpAnyH_ready (rs := [4, 17]) (by kernel_rfl) (by simp) ?_
    refine AllReadyH.cons rfl (fun K hK => ?_) (AllReadyH.cons rfl (fun K hK => ?_) AllReadyH.nil)
    · go_simp
      refine hK.out _ _ (by exact ⟨cell_up (up1 w2 _) d0, cell_up (up1 w2 _) d4, cell_up (up1 w2 _) dw⟩) (fun hHeld => ?_)
      clear hK
      try simp only [Act.put, zA, zB, zC, zD, zE, zF]
      refine wpAnyH_more (C := fun W => W.cell? ⟨w2.heap.size, 0, none⟩ = some (.int .u8 42)) (by assumption) (by exact block_cell (block_new w2 _) 0) (fun hHeld2 => ?_)
      clear hHeld
      refine tk 5 ?_ rfl ?_ ?_
      rotate_left
      · intro W hSW; (try dsimp only at hSW); go_simp; try with_reducible rfl
      try simp only [Act.put, zA, zB, zC, zD, zE, zF]
      refine tk 6 ?_ rfl ?_ ?_
      rotate_left
      · intro W hSW; (try dsimp only at hSW); go_simp; try with_reducible rfl
      try simp only [Act.put, zA, zB, zC, zD, zE, zF]
      refine tk 7 ?_ rfl ?_ ?_
      rotate_left
      · intro W hSW; (try dsimp only at hSW); go_simp; try with_reducible rfl
      try simp only [Act.put, zA, zB, zC, zD, zE, zF]
      refine tk 9 ?_ rfl ?_ ?_
      rotate_left
      · intro W hSW; (try dsimp only at hSW); go_simp; try with_reducible rfl
      try simp only [Act.put, zA, zB, zC, zD, zE, zF]
      refine tk 10 ?_ rfl ?_ ?_
      rotate_left
      · intro W hSW; (try dsimp only at hSW); go_simp; try with_reducible rfl
      try simp only [Act.put, zA, zB, zC, zD, zE, zF]
      refine wpAnyH_ready (rs := [17]) (by kernel_rfl) (by simp) ?_
      refine AllReadyH.cons rfl (fun K hK => ?_) AllReadyH.nil
      go_simp
      go_at_call 176
      (refine (IHB.out _ (HN2.out.up (by repeat (first | exact Below.refl _ _ | refine up_drew ?_ | refine up_alloc ?_ _))) (grow_up2 HG2.out (by repeat (first | exact Below.refl _ _ | refine up_drew ?_ | refine up_alloc ?_ _)))).mono ?_)
      rintro e w3 ⟨rfl, hcn, hg⟩
      have HN3 := Lib.hid hcn
      have HG3 : Hid (w.grownBy w3 (some bn)) := grow_grow (grow_up2 HG2.out (by repeat (first | exact Below.refl _ _ | refine up_drew ?_ | refine up_alloc ?_ _))) hg (.inl rfl)
      obtain ⟨f0, f3, f4⟩ := HC.out w3 HG3.out
      have fw := HF.out w3 _ HN3.out
      have lg3 := World.block_lt_of_cell? w3 _ f0
      have dk : w3.cell? ⟨w2.heap.size, 0, none⟩ = some (.int .u8 42) := hg.cell (block_cell (block_new w2 _) 0) (by have := lt_of_block HN2.out.hn; simp; omega)
      clear hcn hg
      refine hK.out _ _ (by exact ⟨⟨f0, f4, fw⟩, dk⟩) (fun hHeld => ?_)
      clear hK
      try simp only [Act.put, zA, zB, zC, zD, zE, zF]
      clear hHeld2
      refine tk 18 ?_ rfl ?_ ?_
      rotate_left
      · intro W hSW; (try dsimp only at hSW); go_simp; try with_reducible rfl
      try simp only [Act.put, zA, zB, zC, zD, zE, zF]
      refine tk 19 ?_ rfl ?_ ?_
      rotate_left
      · intro W hSW; (try dsimp only at hSW); go_simp; try with_reducible rfl
      try simp only [Act.put, zA, zB, zC, zD, zE, zF]
      refine tk 20 ?_ rfl ?_ ?_
      rotate_left
      · intro W hSW; (try dsimp only at hSW); go_simp; try with_reducible rfl
      try simp only [Act.put, zA, zB, zC, zD, zE, zF]
      refine wpAnyH_done (by kernel_rfl) ?_ _
      refine NoPanic.normal ?_
      go_wp2
      go_ret
      exact ⟨congrArg (fun z => Ending.returned (.string z)) HST.out, HN3.out, HG3.out⟩
    · go_simp
      go_at_call 176
      (refine (IHB.out _ (HN2.out.up (by repeat (first | exact Below.refl _ _ | refine up_drew ?_ | refine up_alloc ?_ _))) (grow_up2 HG2.out (by repeat (first | exact Below.refl _ _ | refine up_drew ?_ | refine up_alloc ?_ _)))).mono ?_)
      rintro e w3 ⟨rfl, hcn, hg⟩
      have HN3 := Lib.hid hcn
      have HG3 : Hid (w.grownBy w3 (some bn)) := grow_grow (grow_up2 HG2.out (by repeat (first | exact Below.refl _ _ | refine up_drew ?_ | refine up_alloc ?_ _))) hg (.inl rfl)
      obtain ⟨f0, f3, f4⟩ := HC.out w3 HG3.out
      have fw := HF.out w3 _ HN3.out
      have lg3 := World.block_lt_of_cell? w3 _ f0
      clear hcn hg
      refine hK.out _ _ (by exact ⟨f0, f4, fw⟩) (fun hHeld => ?_)
      clear hK
      try simp only [Act.put, zA, zB, zC, zD, zE, zF]
      refine wpAnyH_ready (rs := [4]) (by kernel_rfl) (by simp) ?_
      refine AllReadyH.cons rfl (fun K hK => ?_) AllReadyH.nil
      go_simp
      refine hK.out _ _ (by exact ⟨cell_up (up1 w3 _) f0, cell_up (up1 w3 _) f4, cell_up (up1 w3 _) fw⟩) (fun hHeld => ?_)
      clear hK
      try simp only [Act.put, zA, zB, zC, zD, zE, zF]
      refine wpAnyH_more (C := fun W => W.cell? ⟨w3.heap.size, 0, none⟩ = some (.int .u8 42)) (by assumption) (by exact block_cell (block_new w3 _) 0) (fun hHeld2 => ?_)
      clear hHeld
      refine tk 5 ?_ rfl ?_ ?_
      rotate_left
      · intro W hSW; (try dsimp only at hSW); go_simp; try with_reducible rfl
      try simp only [Act.put, zA, zB, zC, zD, zE, zF]
      refine tk 6 ?_ rfl ?_ ?_
      rotate_left
      · intro W hSW; (try dsimp only at hSW); go_simp; try with_reducible rfl
      try simp only [Act.put, zA, zB, zC, zD, zE, zF]
      refine tk 7 ?_ rfl ?_ ?_
      rotate_left
      · intro W hSW; (try dsimp only at hSW); go_simp; try with_reducible rfl
      try simp only [Act.put, zA, zB, zC, zD, zE, zF]
      refine tk 9 ?_ rfl ?_ ?_
      rotate_left
      · intro W hSW; (try dsimp only at hSW); go_simp; try with_reducible rfl
      try simp only [Act.put, zA, zB, zC, zD, zE, zF]
      refine tk 10 ?_ rfl ?_ ?_
      rotate_left
      · intro W hSW; (try dsimp only at hSW); go_simp; try with_reducible rfl
      try simp only [Act.put, zA, zB, zC, zD, zE, zF]
      refine tk 18 ?_ rfl ?_ ?_
      rotate_left
      · intro W hSW; (try dsimp only at hSW); go_simp; try with_reducible rfl
      try simp only [Act.put, zA, zB, zC, zD, zE, zF]
      refine tk 19 ?_ rfl ?_ ?_
      rotate_left
      · intro W hSW; (try dsimp only at hSW); go_simp; try with_reducible rfl
      try simp only [Act.put, zA, zB, zC, zD, zE, zF]
      refine tk 20 ?_ rfl ?_ ?_
      rotate_left
      · intro W hSW; (try dsimp only at hSW); go_simp; try with_reducible rfl
      try simp only [Act.put, zA, zB, zC, zD, zE, zF]
      refine wpAnyH_done (by kernel_rfl) ?_ _
      refine NoPanic.normal ?_
      go_wp2
      go_ret
      exact ⟨congrArg (fun z => Ending.returned (.string z)) HST.out, HN3.out.up (up1 _ _), grow_up2 HG3.out (up1 _ _)⟩

theorem fresh_in (free : List (List UInt8)) : ∀ (f k j : Nat), k ≤ j → j < fresh free f k → tN j ∈ free
  | 0, k, j, h1, h2 => by simp only [fresh] at h2; omega
  | f + 1, k, j, h1, h2 => by
    rw [fresh] at h2
    split at h2
    · rename_i hm
      by_cases hj : j = k
      · subst hj
        exact hm
      · exact fresh_in free f (k + 1) j (by omega) h2
    · omega
theorem cat116 (l : List UInt8) : (⟨#[116]⟩ : ByteArray) ++ St l = St (116 :: l) := by
  apply ByteArray.ext
  simp [ByteArray.data_append]

set_option maxHeartbeats 8000000 in
set_option maxRecDepth 100000 in
theorem canW_loop (fs : List (List UInt8)) (hfl : fs.length ≤ 100000) (w : World) (g : Nat) (pa A : Option Addr) (n c : Nat) (B bw bf bn : Nat) (F : Option Addr) (cF k k2 : Nat) (ra : List UInt8) (hra : ra.length ≤ 1000000) (hk : k + fs.length ≤ 10000000)
    (es es2 : List Value) (hes : es.length = n) (hes2 : es ++ [.string (St (tN (freshN fs k)))] = es2) (hone : ∀ u ∈ es, u.oneCell' = true) (hn : n ≤ 100000)
    (hb : w.heap[g]? = some (.cells #[.int .u8 114, .string (St []), .int .i64 0, .pointer pa, .pointer none] 124 (0, 0))) (h : CN w B bw bf bn F cF fs k)
    (hrow : ∀ w1, w.grownBy w1 (some bn) → RCells w1 A es)
    (ih : ∀ (wr w1 : World) (g' c' : Nat), CN wr B bw bf bn F cF fs (freshN fs k + 1) → w.grownBy wr (some bn) → Below wr.heap.size wr w1 → w1.ownsRow wr.heap.size 9 1 (.slice (some ⟨g', 0, none⟩) (n + 1) c') (n + 1) es2 →
      Calls Tryz.prog 176 #[.pointer pa, .slice (some ⟨g', 0, none⟩) (n + 1) c', .pointer (some ⟨bw, 0, none⟩), .pointer (some ⟨bf, 0, none⟩), .pointer (some ⟨bn, 0, none⟩)] w1 (CPost w1 B bw bf bn F cF fs (ra, k2))) :
    Calls Tryz.prog 176 #[.pointer (some ⟨g, 0, none⟩), .slice A n c, .pointer (some ⟨bw, 0, none⟩), .pointer (some ⟨bf, 0, none⟩), .pointer (some ⟨bn, 0, none⟩)] w (CPost w B bw bf bn F cF fs ([40, 114, 101, 99, 32] ++ tN (freshN fs k) ++ [32] ++ ra ++ [41], k2)) := by
  obtain ⟨i0, hi0, hz0, hz1, hz2⟩ := info_parts Tryz.infoStr
  have IH := Lib.hid ih
  have H := Lib.hid h
  have HCG : Hid (∀ w1, w.grownBy w1 (some bn) → w1.cell? ⟨g, 3, none⟩ = some (.pointer pa)) := fun w1 hg => block_cell (h.keeps hg _ _ _ hb) 3
  have HF : Hid (∀ (w1 : World) k, CN w1 B bw bf bn F cF fs k → w1.cell? ⟨bw, 0, none⟩ = some (.func (.func 176) #[] #[.pointer (some ⟨bw, 0, none⟩), .pointer (some ⟨bf, 0, none⟩), .pointer (some ⟨bn, 0, none⟩)]) ∧ w1.cell? ⟨bf, 0, none⟩ = some (.slice F fs.length cF) ∧ w1.cell? ⟨bn, 0, none⟩ = some (.int .i64 k) ∧ w1.frozen? ⟨bn, 0, none⟩ = false ∧ bn < w1.heap.size) := fun w1 k h => ⟨block_cell h.hw 0, block_cell h.hf 0, block_cell h.hn 0, block_free h.hn 0, lt_of_block h.hn⟩
  have HIT : Hid (∀ (w1 : World) k, k ≤ 100000000 → CN w1 B bw bf bn F cF fs k → Calls Tryz.prog 89 #[.int .i64 k] w1 fun e w' => e = .returned (.string (St (decL k))) ∧ Below w1.heap.size w1 w') := fun w1 k hk h => itoa_any k B hk w1 h.tab
  have HCO : Hid (∀ (w1 : World) k s, CN w1 B bw bf bn F cF fs k → Calls Tryz.prog 177 #[.slice F fs.length cF, .string (St s)] w1 fun e w' => e = .returned (.bool (decide (s ∈ fs))) ∧ w1 = w') := fun w1 k s h => (contains_any fs F cF s w1 (by omega) h.hF.cells).mono fun e w' ⟨h1, h2⟩ => ⟨h1, h2.symm⟩
  have HROW := Lib.hid hrow
  have HFI : Hid (∀ j, k ≤ j → j < freshN fs k → tN j ∈ fs) := fresh_in fs fs.length k
  have HFN : Hid (tN (freshN fs k) ∉ fs) := freshN_not fs k
  have hfr : k ≤ freshN fs k ∧ freshN fs k ≤ k + fs.length := fresh_le fs fs.length k
  have HFR : Hid (k ≤ freshN fs k ∧ freshN fs k ≤ 10000000) := ⟨hfr.1, by omega⟩
  have HONE := Lib.hid hone
  have HLEN : Hid (es.length = n) := hes
  have HREV : Hid (es ++ [.string (St (tN (freshN fs k)))] = es2) := hes2
  have HNE : Hid (n ≤ 100000) := hn
  have c0 : w.cell? ⟨g, 0, none⟩ = some (.int .u8 114) := block_cell hb 0
  clear ih h hb hrow hone hes hes2 hn hfr hk hfl
  generalize freshN fs k = q at *
  go_enter Tryz.func176, Tryz.ntmps176
  go_wp2
  go_loopg [9] (q - k + 1) (fun m v9 wr => ∃ (x : List UInt8) (nx : Nat), v9 = .string (St x) ∧ Hid ((x = [] ∧ nx = k ∧ m = q - k + 1) ∨ (∃ j, x = tN j ∧ nx = j + 1 ∧ j + m = q ∧ k ≤ j)) ∧ Hid (CN wr B bw bf bn F cF fs nx) ∧ Hid (w.grownBy wr (some bn)))
  case atStart => exact ⟨[], k, rfl, .inl ⟨rfl, rfl, rfl⟩, H.out, World.grownBy.refl _ _⟩
  case round =>
    obtain ⟨x, nx, rfl, HX, HN, HG⟩ := hrel
    have HNX := HN
    obtain ⟨dw, df, dn, dz, dl⟩ := HF.out wr nx HN.out
    rcases HX.out with ⟨rfl, hnx, hm⟩ | ⟨j, hx, hnx, hm, hkj⟩
    · have hq := HFR.out
      obtain ⟨m, rfl⟩ : ∃ m, gk = m + 1 := ⟨gk - 1, by omega⟩
      have HI := Lib.hid (HIT.out wr nx (by omega) HN.out)
      have hw1 : IntKind.i64.wrap ((nx : Int) + 1) = (nx : Int) + 1 := by rw [IntKind.wrap_i64]; omega
      have HR : Hid (nx + m = q ∧ k ≤ nx) := ⟨by omega, by omega⟩
      have hdl : (decL nx).length ≤ 9 := by have := decL_len 8 nx (by omega); omega
      have q1 : ¬ 9223372036854775807 < 1 + (decL nx).length := by omega
      clear hnx hm hq HX
      go_wp2_with (go_at_call 89; (with_reducible refine HI.out.mono ?_); rintro e w2 ⟨rfl, hb2⟩; have HN2 := Lib.hid (HN.out.up hb2); have HG2 := Lib.hid (grow_up2 HG.out hb2); obtain ⟨fw, ff, fn, fz, fl⟩ := HF.out w2 nx HN2.out; clear hb2)
      go_roundg m
      case measure => omega
      case rel => exact ⟨tN nx, nx + 1, congrArg Value.string (cat116 _), .inr ⟨nx, rfl, rfl, HR.out⟩, HN2.out.next.1, grow_grow HG2.out HN2.out.next.2 (.inl rfl)⟩
    · have hq := HFR.out
      have hxn : x ≠ [] := by rw [hx]; exact (tN_ne j).1
      have k0 : (x == []) = false := by simpa using hxn
      have HC := Lib.hid (HCO.out wr nx x HN.out)
      by_cases hjq : j = q
      · have hdec : decide (x ∈ fs) = false := decide_eq_false (by rw [hx, hjq]; exact HFN.out)
        have hxl : x.length ≤ 10 := by rw [hx]; exact tN_len10 j (by omega)
        have HXQ : Hid (x = tN q) := by rw [hx, hjq]; exact rfl
        have HNQ : Hid (CN wr B bw bf bn F cF fs (q + 1)) := by have h2 := HN.out; rw [hnx, hjq] at h2; exact h2
        have HE : Hid (∀ w1, Below wr.heap.size wr w1 → w1.cell? ⟨g, 3, none⟩ = some (.pointer pa) ∧ w1.cell? ⟨bw, 0, none⟩ = some (.func (.func 176) #[] #[.pointer (some ⟨bw, 0, none⟩), .pointer (some ⟨bf, 0, none⟩), .pointer (some ⟨bn, 0, none⟩)])) := fun w1 hb => ⟨HCG.out w1 (grow_up2 HG.out hb), (HF.out w1 nx (HN.out.up hb)).1⟩
        have HR : Hid (∀ w1, Below wr.heap.size wr w1 → RCells w1 A es) := fun w1 hb => HROW.out w1 (grow_up2 HG.out hb)
        have HREV : Hid (es ++ [.string (St x)] = es2) := by have h2 := HREV.out; rw [← HXQ.out] at h2; exact h2
        have HST : Hid ((⟨#[40, 114, 101, 99, 32]⟩ : ByteArray) ++ St x ++ ⟨#[32]⟩ ++ St ra ++ ⟨#[41]⟩ = St ([40, 114, 101, 99, 32] ++ tN q ++ [32] ++ ra ++ [41])) := by
          show _ = _
          rw [← HXQ.out]
          apply ByteArray.ext
          simp [ByteArray.data_append]
        have q1 : ¬ 9223372036854775807 < 5 + x.length := by omega
        have q2 : ¬ 9223372036854775807 < 5 + x.length + 1 := by omega
        have q3 : ¬ 9223372036854775807 < 5 + x.length + 1 + ra.length := by omega
        have q4 : ¬ 9223372036854775807 < 5 + x.length + 1 + ra.length + 1 := by omega
        obtain ⟨e3, ew⟩ := HE.out wr (Below.refl _ _)
        clear hx hnx hm hkj hq hxn hjq HX
        go_wp2_with (go_at_call 177; (with_reducible refine HC.out.mono ?_); rintro e w2 ⟨rfl, rfl⟩)
        go_region_held3 (fun w' => w'.cell? ⟨g, 3, none⟩ = some (.pointer pa) ∧ w'.cell? ⟨bw, 0, none⟩ = some (.func (.func 176) #[] #[.pointer (some ⟨bw, 0, none⟩), .pointer (some ⟨bf, 0, none⟩), .pointer (some ⟨bn, 0, none⟩)]))
          (first | exact ⟨d63, d6w⟩ | exact ⟨d53, d5w⟩ | exact ⟨d43, d4w⟩ | exact ⟨e3, ew⟩ | exact HE.out _ (up1 _ _) | exact HE.out _ (up_alloc (up1 _ _) _) | exact HE.out _ (up_alloc HB4.out _) | go_keep)
          (first
        | (go_at_call 176; (with_reducible refine (IH.out wr _ _ _ HNQ.out HG.out HB5.out HO5.out).mono ?_); rintro e w6 ⟨rfl, hn6, hg6⟩; have HN6 := Lib.hid hn6; have HG6 := Lib.hid (grow_grow (grow_up2 HG.out HB5.out) hg6 (.inl rfl)); have d63 := HCG.out w6 HG6.out; have d6w := (HF.out w6 _ HN6.out).1; clear hn6 hg6)
        | ((refine step_append_row _ rfl _ _ 38 rfl wr.heap.size 9 i0 (.string ⟨#[]⟩) 16 Tryz.underlying38 hi0 hz0 hz1 hz2 rfl _ 0 0 [] rfl (own_heap (W := wr.alloc (.cells #[] 9)) rfl (own_nil wr _ (Nat.le_refl _) 9)) A n c es rfl HLEN.out (HR.out _ (by repeat (first | exact Below.refl _ _ | refine up_drew ?_ | refine up_alloc ?_ _))) HONE.out (by have := HNE.out; omega) (by decide) (Below.size (by repeat (first | exact Below.refl _ _ | refine up_drew ?_ | refine up_alloc ?_ _))) n (by omega) es (by simp) ?_); intro g2 c2 w4 hown hgrow hbel hat; have HB4 : Hid (Below wr.heap.size wr w4) := Below.trans (by repeat (first | exact Below.refl _ _ | refine up_drew ?_ | refine up_alloc ?_ _)) hbel; have HO4 := Lib.hid hown; obtain ⟨d43, d4w⟩ := HE.out w4 HB4.out; clear hown hgrow hbel hat)
        | ((refine step_append_row _ rfl _ _ 38 rfl wr.heap.size 9 i0 (.string ⟨#[]⟩) 16 Tryz.underlying38 hi0 hz0 hz1 hz2 rfl _ n c2 es rfl (own_heap (W := w4.alloc (.cells #[.string (St x)] 9)) rfl (World.ownsRow.alloc HO4.out _)) (some ⟨_, 0, none⟩) 1 1 [.string (St x)] rfl rfl (row_one (block_cell (block_new w4 _) 0)) (by simp [Value.oneCell']) (by have := HNE.out; omega) (by decide) (Below.size (by repeat (first | exact HB4.out | refine up_drew ?_ | refine up_alloc ?_ _))) (n + 1) rfl es2 HREV.out ?_); intro g3 c3 w5 hown hgrow hbel hat; have HB5 : Hid (Below wr.heap.size wr w5) := Below.trans (by repeat (first | exact HB4.out | refine up_drew ?_ | refine up_alloc ?_ _)) hbel; have HO5 := Lib.hid hown; obtain ⟨d53, d5w⟩ := HE.out w5 HB5.out; clear hown hgrow hbel hat)
        | ((refine step_append_row _ rfl _ _ 38 rfl wr.heap.size 9 i0 (.string ⟨#[]⟩) 16 Tryz.underlying38 hi0 hz0 hz1 hz2 rfl _ n c2 es rfl (own_heap (W := w4) rfl HO4.out) (some ⟨_, 0, none⟩) 1 1 [.string (St x)] rfl rfl (row_one kc) (by simp [Value.oneCell']) (by have := HNE.out; omega) (by decide) (Below.size (by repeat (first | exact HB4.out | refine up_drew ?_ | refine up_alloc ?_ _))) (n + 1) rfl es2 HREV.out ?_); intro g3 c3 w5 hown hgrow hbel hat; have HB5 : Hid (Below wr.heap.size wr w5) := Below.trans (by repeat (first | exact HB4.out | refine up_drew ?_ | refine up_alloc ?_ _)) hbel; have HO5 := Lib.hid hown; obtain ⟨d53, d5w⟩ := HE.out w5 HB5.out; clear hown hgrow hbel hat)
        | ((refine step_append_row _ rfl _ _ 38 rfl wr.heap.size 9 i0 (.string ⟨#[]⟩) 16 Tryz.underlying38 hi0 hz0 hz1 hz2 rfl _ 0 0 [] rfl (own_heap (W := (wr.alloc (.cells #[] 9)).alloc (.cells #[.string (St x)] 9)) rfl (World.ownsRow.alloc (own_nil wr _ (Nat.le_refl _) 9) _)) A n c es rfl HLEN.out (HR.out _ (by repeat (first | exact Below.refl _ _ | refine up_drew ?_ | refine up_alloc ?_ _))) HONE.out (by have := HNE.out; omega) (by decide) (Below.size (by repeat (first | exact Below.refl _ _ | refine up_drew ?_ | refine up_alloc ?_ _))) n (by omega) es (by simp) ?_); intro g2 c2 w4 hown hgrow hbel hat; have HB4 : Hid (Below wr.heap.size wr w4) := Below.trans (by repeat (first | exact Below.refl _ _ | refine up_drew ?_ | refine up_alloc ?_ _)) hbel; have HO4 := Lib.hid hown; obtain ⟨d43, d4w⟩ := HE.out w4 HB4.out; have kc : w4.cell? ⟨wr.heap.size + 1, 0, none⟩ = some (.string (St x)) := block_cell (cs := #[.string (St x)]) (t := 9) (fr := (0, 0)) ((hgrow.block (wr.heap.size + 1) (by simp <;> omega) (by simp <;> omega)).trans (new2 wr (.cells #[] 9) (.cells #[.string (St x)] 9))) 0; clear hown hgrow hbel hat)
        | ((refine step_append_row _ rfl _ _ 38 rfl wr.heap.size 9 i0 (.string ⟨#[]⟩) 16 Tryz.underlying38 hi0 hz0 hz1 hz2 rfl _ 0 0 [] rfl (own_heap (W := (wr.alloc (.cells #[.string (St x)] 9)).alloc (.cells #[] 9)) rfl (own_nilH (wr.alloc (.cells #[.string (St x)] 9)) _ (by simp) 9 (wr.heap.size + 1) (by simp))) A n c es rfl HLEN.out (HR.out _ (by repeat (first | exact Below.refl _ _ | refine up_drew ?_ | refine up_alloc ?_ _))) HONE.out (by have := HNE.out; omega) (by decide) (Below.size (by repeat (first | exact Below.refl _ _ | refine up_drew ?_ | refine up_alloc ?_ _))) n (by omega) es (by simp) ?_); intro g2 c2 w4 hown hgrow hbel hat; have HB4 : Hid (Below wr.heap.size wr w4) := Below.trans (by repeat (first | exact Below.refl _ _ | refine up_drew ?_ | refine up_alloc ?_ _)) hbel; have HO4 := Lib.hid hown; obtain ⟨d43, d4w⟩ := HE.out w4 HB4.out; have kc : w4.cell? ⟨wr.heap.size, 0, none⟩ = some (.string (St x)) := block_cell (cs := #[.string (St x)]) (t := 9) (fr := (0, 0)) ((hgrow.block wr.heap.size (by simp <;> omega) (by simp <;> omega)).trans (old2 wr (.cells #[.string (St x)] 9) (.cells #[] 9))) 0; clear hown hgrow hbel hat))
        all_goals go_wp2
        all_goals go_ret
        all_goals exact ⟨congrArg (fun z => Ending.returned (.string z)) HST.out, HN6.out, HG6.out⟩
      · obtain ⟨m, rfl⟩ : ∃ m, gk = m + 1 := ⟨gk - 1, by omega⟩
        have hdec : decide (x ∈ fs) = true := decide_eq_true (by rw [hx]; exact HFI.out j hkj (by omega))
        have HI := Lib.hid (HIT.out wr nx (by omega) HN.out)
        have hw1 : IntKind.i64.wrap ((nx : Int) + 1) = (nx : Int) + 1 := by rw [IntKind.wrap_i64]; omega
        have HR : Hid (nx + m = q ∧ k ≤ nx) := ⟨by omega, by omega⟩
        have hdl : (decL nx).length ≤ 9 := by have := decL_len 8 nx (by omega); omega
        have q1 : ¬ 9223372036854775807 < 1 + (decL nx).length := by omega
        clear hx hnx hm hkj hq hxn hjq HX
        go_wp2_with (first
          | (go_at_call 177; (with_reducible refine HC.out.mono ?_); rintro e w2 ⟨rfl, rfl⟩)
          | (go_at_call 89; (with_reducible refine HI.out.mono ?_); rintro e w2 ⟨rfl, hb2⟩; have HN2 := Lib.hid (HN.out.up hb2); have HG2 := Lib.hid (grow_up2 HG.out hb2); obtain ⟨fw, ff, fn, fz, fl⟩ := HF.out w2 nx HN2.out; clear hb2))
        go_roundg m
        case measure => omega
        case rel => exact ⟨tN nx, nx + 1, congrArg Value.string (cat116 _), .inr ⟨nx, rfl, rfl, HR.out⟩, HN2.out.next.1, grow_grow HG2.out HN2.out.next.2 (.inl rfl)⟩

end Go.Proofs.YtpokompplapkhaaGreatDoor

namespace Go.Proofs.YtpokompplapkhaaGreatDoor
open Go.RowKit
set_option linter.unusedVariables false
set_option linter.unusedSimpArgs false

set_option maxHeartbeats 4000000 in
set_option maxRecDepth 100000 in
theorem put_digit (nm : List UInt8) (q : Option Addr) (w : World) (g : Nat) (z : Int) (hz : z = 48 ∨ z = 49) (e0 : w.cell? ⟨g, 0, none⟩ = some (.int .u8 z)) :
    Calls Tryz.prog 171 #[.pointer (some ⟨g, 0, none⟩), .string (St nm), .pointer q] w fun e w' => e = .returned (.pointer (some ⟨g, 0, none⟩)) ∧ Below w.heap.size w w' := by
  rcases hz with rfl | rfl
  · go_enter Tryz.func171, Tryz.ntmps171
    go_wp2
    go_ret
    exact ⟨rfl, Below.refl _ _⟩
  · go_enter Tryz.func171, Tryz.ntmps171
    go_wp2
    go_ret
    exact ⟨rfl, Below.refl _ _⟩

set_option maxHeartbeats 4000000 in
set_option maxRecDepth 100000 in
theorem put_hit (nm : List UInt8) (q : Option Addr) (w : World) (g : Nat) (e0 : w.cell? ⟨g, 0, none⟩ = some (.int .u8 110)) (s : List UInt8) (e1 : w.cell? ⟨g, 1, none⟩ = some (.string (St s))) (k : (s == nm) = true) :
    Calls Tryz.prog 171 #[.pointer (some ⟨g, 0, none⟩), .string (St nm), .pointer q] w fun e w' => e = .returned (.pointer q) ∧ Below w.heap.size w w' := by
  go_enter Tryz.func171, Tryz.ntmps171
  go_wp2
  go_ret
  exact ⟨rfl, Below.refl _ _⟩

set_option maxHeartbeats 4000000 in
set_option maxRecDepth 100000 in
theorem put_miss (nm : List UInt8) (q : Option Addr) (w : World) (g : Nat) (e0 : w.cell? ⟨g, 0, none⟩ = some (.int .u8 110)) (s : List UInt8) (e1 : w.cell? ⟨g, 1, none⟩ = some (.string (St s))) (k : (s == nm) = false) :
    Calls Tryz.prog 171 #[.pointer (some ⟨g, 0, none⟩), .string (St nm), .pointer q] w fun e w' => e = .returned (.pointer (some ⟨g, 0, none⟩)) ∧ Below w.heap.size w w' := by
  go_enter Tryz.func171, Tryz.ntmps171
  go_wp2
  go_ret
  exact ⟨rfl, Below.refl _ _⟩

set_option maxHeartbeats 4000000 in
set_option maxRecDepth 100000 in
theorem put_bound (nm : List UInt8) (q : Option Addr) (w : World) (g : Nat) (e0 : w.cell? ⟨g, 0, none⟩ = some (.int .u8 98)) :
    Calls Tryz.prog 171 #[.pointer (some ⟨g, 0, none⟩), .string (St nm), .pointer q] w fun e w' => e = .returned (.pointer (some ⟨g, 0, none⟩)) ∧ Below w.heap.size w w' := by
  go_enter Tryz.func171, Tryz.ntmps171
  go_wp2
  go_ret
  exact ⟨rfl, Below.refl _ _⟩

set_option maxHeartbeats 8000000 in
set_option maxRecDepth 100000 in
theorem put_two (sg : Int) (hsg : sg = 43 ∨ sg = 42) (nm : List UInt8) (q : Option Addr) (a' b' : Ty) (w : World) (g ga gb : Nat) (hb : w.heap[g]? = some (.cells #[.int .u8 sg, .string (St []), .int .i64 0, .pointer (some ⟨ga, 0, none⟩), .pointer (some ⟨gb, 0, none⟩)] 124 (0, 0)))
    (iha : ∀ w1 : World, Below w.heap.size w w1 → Calls Tryz.prog 171 #[.pointer (some ⟨ga, 0, none⟩), .string (St nm), .pointer q] w1 fun e w' => ∃ p', e = .returned (.pointer p') ∧ TyAt w' a' p' ∧ Below w1.heap.size w1 w')
    (ihb : ∀ w1 : World, Below w.heap.size w w1 → Calls Tryz.prog 171 #[.pointer (some ⟨gb, 0, none⟩), .string (St nm), .pointer q] w1 fun e w' => ∃ p', e = .returned (.pointer p') ∧ TyAt w' b' p' ∧ Below w1.heap.size w1 w') :
    Calls Tryz.prog 171 #[.pointer (some ⟨g, 0, none⟩), .string (St nm), .pointer q] w fun e w' => ∃ p' pa' pb', e = .returned (.pointer p') ∧ TyN w' p' sg [] 0 pa' pb' ∧ TyAt w' a' pa' ∧ TyAt w' b' pb' ∧ Below w.heap.size w w' := by
  have IHA := Lib.hid iha
  have IHB := Lib.hid ihb
  clear iha ihb
  rcases hsg with rfl | rfl
  · have e0 : w.cell? ⟨g, 0, none⟩ = some (.int .u8 43) := block_cell hb 0
    have e3 : w.cell? ⟨g, 3, none⟩ = some (.pointer (some ⟨ga, 0, none⟩)) := block_cell hb 3
    have e4 : w.cell? ⟨g, 4, none⟩ = some (.pointer (some ⟨gb, 0, none⟩)) := block_cell hb 4
    clear hb
    go_enter Tryz.func171, Tryz.ntmps171
    go_wp2
    go_region_held3 (fun w' => w'.cell? ⟨g, 0, none⟩ = some (.int .u8 43) ∧ w'.cell? ⟨g, 3, none⟩ = some (.pointer (some ⟨ga, 0, none⟩)) ∧ w'.cell? ⟨g, 4, none⟩ = some (.pointer (some ⟨gb, 0, none⟩)))
      (first | exact ⟨t0, t3, t4⟩ | exact ⟨s0, s3, s4⟩ | exact ⟨e0, e3, e4⟩ | go_keep)
      ((go_at_call 171; first
        | ((with_reducible refine (IHB.out _ HB2.out).mono ?_); rintro e w3 ⟨pb', rfl, hpb, hb3⟩; have HPB := Lib.hid hpb; have HPA3 := Lib.hid (TyAt.up hb3 HPA.out); have HB3 := Lib.hid (up_trans HB2.out hb3); have t0 := cell_up HB3.out e0; have t3 := cell_up HB3.out e3; have t4 := cell_up HB3.out e4; clear hpb hb3)
        | ((with_reducible refine (IHA.out _ (up_drew (Below.refl _ _))).mono ?_); rintro e w2 ⟨pa', rfl, hpa, hb2⟩; have HPA := Lib.hid hpa; have HB2 : Hid (Below w.heap.size w w2) := up_trans (up_drew (Below.refl _ _)) hb2; have s0 := cell_up HB2.out e0; have s3 := cell_up HB2.out e3; have s4 := cell_up HB2.out e4; clear hpa hb2)))
    all_goals go_wp2
    all_goals go_ret
    all_goals exact ⟨_, pa', pb', rfl, TyN_new w3 43 [] 0 pa' pb', HPA3.out.up (up1 _ _), HPB.out.up (up1 _ _), up_alloc HB3.out _⟩
  · have e0 : w.cell? ⟨g, 0, none⟩ = some (.int .u8 42) := block_cell hb 0
    have e3 : w.cell? ⟨g, 3, none⟩ = some (.pointer (some ⟨ga, 0, none⟩)) := block_cell hb 3
    have e4 : w.cell? ⟨g, 4, none⟩ = some (.pointer (some ⟨gb, 0, none⟩)) := block_cell hb 4
    clear hb
    go_enter Tryz.func171, Tryz.ntmps171
    go_wp2
    go_region_held3 (fun w' => w'.cell? ⟨g, 0, none⟩ = some (.int .u8 42) ∧ w'.cell? ⟨g, 3, none⟩ = some (.pointer (some ⟨ga, 0, none⟩)) ∧ w'.cell? ⟨g, 4, none⟩ = some (.pointer (some ⟨gb, 0, none⟩)))
      (first | exact ⟨t0, t3, t4⟩ | exact ⟨s0, s3, s4⟩ | exact ⟨e0, e3, e4⟩ | go_keep)
      ((go_at_call 171; first
        | ((with_reducible refine (IHB.out _ HB2.out).mono ?_); rintro e w3 ⟨pb', rfl, hpb, hb3⟩; have HPB := Lib.hid hpb; have HPA3 := Lib.hid (TyAt.up hb3 HPA.out); have HB3 := Lib.hid (up_trans HB2.out hb3); have t0 := cell_up HB3.out e0; have t3 := cell_up HB3.out e3; have t4 := cell_up HB3.out e4; clear hpb hb3)
        | ((with_reducible refine (IHA.out _ (up_drew (Below.refl _ _))).mono ?_); rintro e w2 ⟨pa', rfl, hpa, hb2⟩; have HPA := Lib.hid hpa; have HB2 : Hid (Below w.heap.size w w2) := up_trans (up_drew (Below.refl _ _)) hb2; have s0 := cell_up HB2.out e0; have s3 := cell_up HB2.out e3; have s4 := cell_up HB2.out e4; clear hpa hb2)))
    all_goals go_wp2
    all_goals go_ret
    all_goals exact ⟨_, pa', pb', rfl, TyN_new w3 42 [] 0 pa' pb', HPA3.out.up (up1 _ _), HPB.out.up (up1 _ _), up_alloc HB3.out _⟩

set_option maxHeartbeats 8000000 in
set_option maxRecDepth 100000 in
theorem put_rec (nm : List UInt8) (q : Option Addr) (a' : Ty) (w : World) (g ga : Nat) (hb : w.heap[g]? = some (.cells #[.int .u8 114, .string (St []), .int .i64 0, .pointer (some ⟨ga, 0, none⟩), .pointer none] 124 (0, 0)))
    (iha : ∀ w1 : World, Below w.heap.size w w1 → Calls Tryz.prog 171 #[.pointer (some ⟨ga, 0, none⟩), .string (St nm), .pointer q] w1 fun e w' => ∃ p', e = .returned (.pointer p') ∧ TyAt w' a' p' ∧ Below w1.heap.size w1 w') :
    Calls Tryz.prog 171 #[.pointer (some ⟨g, 0, none⟩), .string (St nm), .pointer q] w fun e w' => ∃ p', e = .returned (.pointer p') ∧ TyAt w' (.loop a') p' ∧ Below w.heap.size w w' := by
  have IHA := Lib.hid iha
  have e0 : w.cell? ⟨g, 0, none⟩ = some (.int .u8 114) := block_cell hb 0
  have e3 : w.cell? ⟨g, 3, none⟩ = some (.pointer (some ⟨ga, 0, none⟩)) := block_cell hb 3
  clear iha hb
  go_enter Tryz.func171, Tryz.ntmps171
  go_wp2_with (go_at_call 171; (with_reducible refine (IHA.out _ (Below.refl _ _)).mono ?_); rintro e w2 ⟨pa', rfl, hpa, hb2⟩; have HPA := Lib.hid hpa; have HB2 := Lib.hid hb2; clear hpa hb2)
  go_ret
  exact ⟨_, rfl, ⟨pa', TyN_new w2 114 [] 0 pa' none, HPA.out.up (up1 _ _)⟩, up_alloc HB2.out _⟩

/-- put, whole. -/
theorem put_any (nm : List UInt8) (u : Ty) : ∀ (t : Ty) (w : World) (p q : Option Addr), TyAt w t p → TyAt w u q →
    Calls Tryz.prog 171 #[.pointer p, .string (St nm), .pointer q] w fun e w' => ∃ p', e = .returned (.pointer p') ∧ TyAt w' (t.put nm u) p' ∧ Below w.heap.size w w'
  | .zero, w, p, q, hp, hq => by
    have hp0 := hp
    obtain ⟨g, rfl, hb⟩ := hp
    exact (put_digit nm q w g 48 (.inl rfl) (block_cell hb 0)).mono fun e w' ⟨h1, h2⟩ => ⟨_, h1, hp0.up h2, h2⟩
  | .one, w, p, q, hp, hq => by
    have hp0 := hp
    obtain ⟨g, rfl, hb⟩ := hp
    exact (put_digit nm q w g 49 (.inr rfl) (block_cell hb 0)).mono fun e w' ⟨h1, h2⟩ => ⟨_, h1, hp0.up h2, h2⟩
  | .bound k, w, p, q, hp, hq => by
    have hp0 := hp
    obtain ⟨g, rfl, hb⟩ := hp
    exact (put_bound nm q w g (block_cell hb 0)).mono fun e w' ⟨h1, h2⟩ => ⟨_, h1, hp0.up h2, h2⟩
  | .name s, w, p, q, hp, hq => by
    have hp0 := hp
    obtain ⟨g, rfl, hb⟩ := hp
    by_cases hs : s = nm
    · subst hs
      exact (put_hit s q w g (block_cell hb 0) s (block_cell hb 1) (by simp)).mono fun e w' ⟨h1, h2⟩ => ⟨_, h1, by simp only [Ty.put]; exact hq.up h2, h2⟩
    · exact (put_miss nm q w g (block_cell hb 0) s (block_cell hb 1) (by simpa using hs)).mono fun e w' ⟨h1, h2⟩ => ⟨_, h1, by simp only [Ty.put]; rw [if_neg hs]; exact hp0.up h2, h2⟩
  | .sum a b, w, p, q, hp, hq => by
    obtain ⟨pa, pb, ⟨g, rfl, hb⟩, ha, hb'⟩ := hp
    obtain ⟨ga, rfl⟩ := ha.some_
    obtain ⟨gb, rfl⟩ := hb'.some_
    exact (put_two 43 (.inl rfl) nm q (a.put nm u) (b.put nm u) w g ga gb hb (fun w1 h => put_any nm u a w1 _ q (ha.up h) (hq.up h)) (fun w1 h => put_any nm u b w1 _ q (hb'.up h) (hq.up h))).mono fun e w' ⟨p', pa', pb', h1, h2, h3, h4, h5⟩ => ⟨p', h1, ⟨pa', pb', h2, h3, h4⟩, h5⟩
  | .prod a b, w, p, q, hp, hq => by
    obtain ⟨pa, pb, ⟨g, rfl, hb⟩, ha, hb'⟩ := hp
    obtain ⟨ga, rfl⟩ := ha.some_
    obtain ⟨gb, rfl⟩ := hb'.some_
    exact (put_two 42 (.inr rfl) nm q (a.put nm u) (b.put nm u) w g ga gb hb (fun w1 h => put_any nm u a w1 _ q (ha.up h) (hq.up h)) (fun w1 h => put_any nm u b w1 _ q (hb'.up h) (hq.up h))).mono fun e w' ⟨p', pa', pb', h1, h2, h3, h4, h5⟩ => ⟨p', h1, ⟨pa', pb', h2, h3, h4⟩, h5⟩
  | .loop a, w, p, q, hp, hq => by
    obtain ⟨pa, ⟨g, rfl, hb⟩, ha⟩ := hp
    obtain ⟨ga, rfl⟩ := ha.some_
    exact put_rec nm q (a.put nm u) w g ga hb (fun w1 h => put_any nm u a w1 _ q (ha.up h) (hq.up h))

set_option maxHeartbeats 4000000 in
set_option maxRecDepth 100000 in
theorem opened_digit (up : Int) (q : Option Addr) (w : World) (g : Nat) (z : Int) (hz : z = 48 ∨ z = 49) (e0 : w.cell? ⟨g, 0, none⟩ = some (.int .u8 z)) :
    Calls Tryz.prog 170 #[.pointer (some ⟨g, 0, none⟩), .pointer q, .int .i64 up] w fun e w' => e = .returned (.pointer (some ⟨g, 0, none⟩)) ∧ Below w.heap.size w w' := by
  rcases hz with rfl | rfl
  · go_enter Tryz.func170, Tryz.ntmps170
    go_wp2
    go_ret
    exact ⟨rfl, Below.refl _ _⟩
  · go_enter Tryz.func170, Tryz.ntmps170
    go_wp2
    go_ret
    exact ⟨rfl, Below.refl _ _⟩

set_option maxHeartbeats 4000000 in
set_option maxRecDepth 100000 in
theorem opened_name (up : Int) (q : Option Addr) (w : World) (g : Nat) (e0 : w.cell? ⟨g, 0, none⟩ = some (.int .u8 110)) :
    Calls Tryz.prog 170 #[.pointer (some ⟨g, 0, none⟩), .pointer q, .int .i64 up] w fun e w' => e = .returned (.pointer (some ⟨g, 0, none⟩)) ∧ Below w.heap.size w w' := by
  go_enter Tryz.func170, Tryz.ntmps170
  go_wp2
  go_ret
  exact ⟨rfl, Below.refl _ _⟩

set_option maxHeartbeats 4000000 in
set_option maxRecDepth 100000 in
theorem opened_hit (up : Int) (q : Option Addr) (w : World) (g : Nat) (e0 : w.cell? ⟨g, 0, none⟩ = some (.int .u8 98)) (k : Int) (e2 : w.cell? ⟨g, 2, none⟩ = some (.int .i64 k)) (hk : (k == up) = true) :
    Calls Tryz.prog 170 #[.pointer (some ⟨g, 0, none⟩), .pointer q, .int .i64 up] w fun e w' => e = .returned (.pointer q) ∧ Below w.heap.size w w' := by
  go_enter Tryz.func170, Tryz.ntmps170
  go_wp2
  go_ret
  exact ⟨rfl, Below.refl _ _⟩

set_option maxHeartbeats 4000000 in
set_option maxRecDepth 100000 in
theorem opened_miss (up : Int) (q : Option Addr) (w : World) (g : Nat) (e0 : w.cell? ⟨g, 0, none⟩ = some (.int .u8 98)) (k : Int) (e2 : w.cell? ⟨g, 2, none⟩ = some (.int .i64 k)) (hk : (k == up) = false) :
    Calls Tryz.prog 170 #[.pointer (some ⟨g, 0, none⟩), .pointer q, .int .i64 up] w fun e w' => e = .returned (.pointer (some ⟨g, 0, none⟩)) ∧ Below w.heap.size w w' := by
  go_enter Tryz.func170, Tryz.ntmps170
  go_wp2
  go_ret
  exact ⟨rfl, Below.refl _ _⟩

set_option maxHeartbeats 8000000 in
set_option maxRecDepth 100000 in
theorem opened_two (sg : Int) (hsg : sg = 43 ∨ sg = 42) (up : Int) (q : Option Addr) (a' b' : Ty) (w : World) (g ga gb : Nat) (hb : w.heap[g]? = some (.cells #[.int .u8 sg, .string (St []), .int .i64 0, .pointer (some ⟨ga, 0, none⟩), .pointer (some ⟨gb, 0, none⟩)] 124 (0, 0)))
    (iha : ∀ w1 : World, Below w.heap.size w w1 → Calls Tryz.prog 170 #[.pointer (some ⟨ga, 0, none⟩), .pointer q, .int .i64 up] w1 fun e w' => ∃ p', e = .returned (.pointer p') ∧ TyAt w' a' p' ∧ Below w1.heap.size w1 w')
    (ihb : ∀ w1 : World, Below w.heap.size w w1 → Calls Tryz.prog 170 #[.pointer (some ⟨gb, 0, none⟩), .pointer q, .int .i64 up] w1 fun e w' => ∃ p', e = .returned (.pointer p') ∧ TyAt w' b' p' ∧ Below w1.heap.size w1 w') :
    Calls Tryz.prog 170 #[.pointer (some ⟨g, 0, none⟩), .pointer q, .int .i64 up] w fun e w' => ∃ p' pa' pb', e = .returned (.pointer p') ∧ TyN w' p' sg [] 0 pa' pb' ∧ TyAt w' a' pa' ∧ TyAt w' b' pb' ∧ Below w.heap.size w w' := by
  have IHA := Lib.hid iha
  have IHB := Lib.hid ihb
  clear iha ihb
  rcases hsg with rfl | rfl
  · have e0 : w.cell? ⟨g, 0, none⟩ = some (.int .u8 43) := block_cell hb 0
    have e3 : w.cell? ⟨g, 3, none⟩ = some (.pointer (some ⟨ga, 0, none⟩)) := block_cell hb 3
    have e4 : w.cell? ⟨g, 4, none⟩ = some (.pointer (some ⟨gb, 0, none⟩)) := block_cell hb 4
    clear hb
    go_enter Tryz.func170, Tryz.ntmps170
    go_wp2
    go_region_held3 (fun w' => w'.cell? ⟨g, 0, none⟩ = some (.int .u8 43) ∧ w'.cell? ⟨g, 3, none⟩ = some (.pointer (some ⟨ga, 0, none⟩)) ∧ w'.cell? ⟨g, 4, none⟩ = some (.pointer (some ⟨gb, 0, none⟩)))
      (first | exact ⟨t0, t3, t4⟩ | exact ⟨s0, s3, s4⟩ | exact ⟨e0, e3, e4⟩ | go_keep)
      ((go_at_call 170; first
        | ((with_reducible refine (IHB.out _ HB2.out).mono ?_); rintro e w3 ⟨pb', rfl, hpb, hb3⟩; have HPB := Lib.hid hpb; have HPA3 := Lib.hid (TyAt.up hb3 HPA.out); have HB3 := Lib.hid (up_trans HB2.out hb3); have t0 := cell_up HB3.out e0; have t3 := cell_up HB3.out e3; have t4 := cell_up HB3.out e4; clear hpb hb3)
        | ((with_reducible refine (IHA.out _ (up_drew (Below.refl _ _))).mono ?_); rintro e w2 ⟨pa', rfl, hpa, hb2⟩; have HPA := Lib.hid hpa; have HB2 : Hid (Below w.heap.size w w2) := up_trans (up_drew (Below.refl _ _)) hb2; have s0 := cell_up HB2.out e0; have s3 := cell_up HB2.out e3; have s4 := cell_up HB2.out e4; clear hpa hb2)))
    all_goals go_wp2
    all_goals go_ret
    all_goals exact ⟨_, pa', pb', rfl, TyN_new w3 43 [] 0 pa' pb', HPA3.out.up (up1 _ _), HPB.out.up (up1 _ _), up_alloc HB3.out _⟩
  · have e0 : w.cell? ⟨g, 0, none⟩ = some (.int .u8 42) := block_cell hb 0
    have e3 : w.cell? ⟨g, 3, none⟩ = some (.pointer (some ⟨ga, 0, none⟩)) := block_cell hb 3
    have e4 : w.cell? ⟨g, 4, none⟩ = some (.pointer (some ⟨gb, 0, none⟩)) := block_cell hb 4
    clear hb
    go_enter Tryz.func170, Tryz.ntmps170
    go_wp2
    go_region_held3 (fun w' => w'.cell? ⟨g, 0, none⟩ = some (.int .u8 42) ∧ w'.cell? ⟨g, 3, none⟩ = some (.pointer (some ⟨ga, 0, none⟩)) ∧ w'.cell? ⟨g, 4, none⟩ = some (.pointer (some ⟨gb, 0, none⟩)))
      (first | exact ⟨t0, t3, t4⟩ | exact ⟨s0, s3, s4⟩ | exact ⟨e0, e3, e4⟩ | go_keep)
      ((go_at_call 170; first
        | ((with_reducible refine (IHB.out _ HB2.out).mono ?_); rintro e w3 ⟨pb', rfl, hpb, hb3⟩; have HPB := Lib.hid hpb; have HPA3 := Lib.hid (TyAt.up hb3 HPA.out); have HB3 := Lib.hid (up_trans HB2.out hb3); have t0 := cell_up HB3.out e0; have t3 := cell_up HB3.out e3; have t4 := cell_up HB3.out e4; clear hpb hb3)
        | ((with_reducible refine (IHA.out _ (up_drew (Below.refl _ _))).mono ?_); rintro e w2 ⟨pa', rfl, hpa, hb2⟩; have HPA := Lib.hid hpa; have HB2 : Hid (Below w.heap.size w w2) := up_trans (up_drew (Below.refl _ _)) hb2; have s0 := cell_up HB2.out e0; have s3 := cell_up HB2.out e3; have s4 := cell_up HB2.out e4; clear hpa hb2)))
    all_goals go_wp2
    all_goals go_ret
    all_goals exact ⟨_, pa', pb', rfl, TyN_new w3 42 [] 0 pa' pb', HPA3.out.up (up1 _ _), HPB.out.up (up1 _ _), up_alloc HB3.out _⟩

set_option maxHeartbeats 8000000 in
set_option maxRecDepth 100000 in
theorem opened_rec (up : Int) (hup : 0 ≤ up ∧ up ≤ 100000) (q : Option Addr) (a' : Ty) (w : World) (g ga : Nat) (hb : w.heap[g]? = some (.cells #[.int .u8 114, .string (St []), .int .i64 0, .pointer (some ⟨ga, 0, none⟩), .pointer none] 124 (0, 0)))
    (iha : ∀ w1 : World, Below w.heap.size w w1 → Calls Tryz.prog 170 #[.pointer (some ⟨ga, 0, none⟩), .pointer q, .int .i64 (up + 1)] w1 fun e w' => ∃ p', e = .returned (.pointer p') ∧ TyAt w' a' p' ∧ Below w1.heap.size w1 w') :
    Calls Tryz.prog 170 #[.pointer (some ⟨g, 0, none⟩), .pointer q, .int .i64 up] w fun e w' => ∃ p', e = .returned (.pointer p') ∧ TyAt w' (.loop a') p' ∧ Below w.heap.size w w' := by
  have IHA := Lib.hid iha
  have e0 : w.cell? ⟨g, 0, none⟩ = some (.int .u8 114) := block_cell hb 0
  have e3 : w.cell? ⟨g, 3, none⟩ = some (.pointer (some ⟨ga, 0, none⟩)) := block_cell hb 3
  have hw : IntKind.i64.wrap (up + 1) = up + 1 := by rw [IntKind.wrap_i64]; omega
  clear iha hb hup
  go_enter Tryz.func170, Tryz.ntmps170
  go_wp2_with (go_at_call 170; (with_reducible refine (IHA.out _ (Below.refl _ _)).mono ?_); rintro e w2 ⟨pa', rfl, hpa, hb2⟩; have HPA := Lib.hid hpa; have HB2 := Lib.hid hb2; clear hpa hb2)
  go_ret
  exact ⟨_, rfl, ⟨pa', TyN_new w2 114 [] 0 pa' none, HPA.out.up (up1 _ _)⟩, up_alloc HB2.out _⟩

/-- opened, whole. -/
theorem opened_any (u : Ty) : ∀ (t : Ty) (w : World) (p q : Option Addr) (up : Nat), TyAt w t p → TyAt w u q → up + t.atoms ≤ 100000 →
    Calls Tryz.prog 170 #[.pointer p, .pointer q, .int .i64 up] w fun e w' => ∃ p', e = .returned (.pointer p') ∧ TyAt w' (t.opened u up) p' ∧ Below w.heap.size w w'
  | .zero, w, p, q, up, hp, hq, hn => by
    have hp0 := hp
    obtain ⟨g, rfl, hb⟩ := hp
    exact (opened_digit up q w g 48 (.inl rfl) (block_cell hb 0)).mono fun e w' ⟨h1, h2⟩ => ⟨_, h1, hp0.up h2, h2⟩
  | .one, w, p, q, up, hp, hq, hn => by
    have hp0 := hp
    obtain ⟨g, rfl, hb⟩ := hp
    exact (opened_digit up q w g 49 (.inr rfl) (block_cell hb 0)).mono fun e w' ⟨h1, h2⟩ => ⟨_, h1, hp0.up h2, h2⟩
  | .name s, w, p, q, up, hp, hq, hn => by
    have hp0 := hp
    obtain ⟨g, rfl, hb⟩ := hp
    exact (opened_name up q w g (block_cell hb 0)).mono fun e w' ⟨h1, h2⟩ => ⟨_, h1, hp0.up h2, h2⟩
  | .bound k, w, p, q, up, hp, hq, hn => by
    have hp0 := hp
    obtain ⟨g, rfl, hb⟩ := hp
    by_cases hs : k = up
    · subst hs
      exact (opened_hit k q w g (block_cell hb 0) k (block_cell hb 2) (by simp)).mono fun e w' ⟨h1, h2⟩ => ⟨_, h1, by simp only [Ty.opened]; exact hq.up h2, h2⟩
    · exact (opened_miss up q w g (block_cell hb 0) k (block_cell hb 2) (by simp; omega)).mono fun e w' ⟨h1, h2⟩ => ⟨_, h1, by simp only [Ty.opened]; rw [if_neg hs]; exact hp0.up h2, h2⟩
  | .sum a b, w, p, q, up, hp, hq, hn => by
    simp only [Ty.atoms] at hn
    obtain ⟨pa, pb, ⟨g, rfl, hb⟩, ha, hb'⟩ := hp
    obtain ⟨ga, rfl⟩ := ha.some_
    obtain ⟨gb, rfl⟩ := hb'.some_
    exact (opened_two 43 (.inl rfl) up q (a.opened u up) (b.opened u up) w g ga gb hb (fun w1 h => opened_any u a w1 _ q up (ha.up h) (hq.up h) (by omega)) (fun w1 h => opened_any u b w1 _ q up (hb'.up h) (hq.up h) (by omega))).mono fun e w' ⟨p', pa', pb', h1, h2, h3, h4, h5⟩ => ⟨p', h1, ⟨pa', pb', h2, h3, h4⟩, h5⟩
  | .prod a b, w, p, q, up, hp, hq, hn => by
    simp only [Ty.atoms] at hn
    obtain ⟨pa, pb, ⟨g, rfl, hb⟩, ha, hb'⟩ := hp
    obtain ⟨ga, rfl⟩ := ha.some_
    obtain ⟨gb, rfl⟩ := hb'.some_
    exact (opened_two 42 (.inr rfl) up q (a.opened u up) (b.opened u up) w g ga gb hb (fun w1 h => opened_any u a w1 _ q up (ha.up h) (hq.up h) (by omega)) (fun w1 h => opened_any u b w1 _ q up (hb'.up h) (hq.up h) (by omega))).mono fun e w' ⟨p', pa', pb', h1, h2, h3, h4, h5⟩ => ⟨p', h1, ⟨pa', pb', h2, h3, h4⟩, h5⟩
  | .loop a, w, p, q, up, hp, hq, hn => by
    simp only [Ty.atoms] at hn
    obtain ⟨pa, ⟨g, rfl, hb⟩, ha⟩ := hp
    obtain ⟨ga, rfl⟩ := ha.some_
    exact opened_rec up (by omega) q (a.opened u (up + 1)) w g ga hb (fun w1 h => opened_any u a w1 _ q (up + 1) (ha.up h) (hq.up h) (by omega))

end Go.Proofs.YtpokompplapkhaaGreatDoor

namespace Go.Proofs.YtpokompplapkhaaGreatDoor
open Go.RowKit
set_option linter.unusedVariables false
set_option linter.unusedSimpArgs false

theorem canW_any (fs : List (List UInt8)) (hfl : fs.length ≤ 100000) : ∀ (t : Ty), LC fs t
  | .zero => fun w p A c ar B bw bf bn F cF k hp h hA hsc h1 h2 hnm har => canW_digit fs 48 (.inl rfl) w p A _ c B bw bf bn F cF k hp h
  | .one => fun w p A c ar B bw bf bn F cF k hp h hA hsc h1 h2 hnm har => canW_digit fs 49 (.inr rfl) w p A _ c B bw bf bn F cF k hp h
  | .name s => canW_name fs s
  | .bound i => canW_bound fs i
  | .sum a b => fun w p A c ar B bw bf bn F cF k hp h hA hsc h1 h2 hnm har => by
    obtain ⟨pa, pb, ⟨g, rfl, hb⟩, ha, hb'⟩ := hp
    simp only [Ty.atoms, Nat.add_mul] at h1 h2
    obtain ⟨l1, l2, l3⟩ := cw_len fs a ar k hnm.1 har (by omega)
    obtain ⟨l4, l5, l6⟩ := cw_len fs b ar (a.cw fs ar k).2 hnm.2 har (by omega)
    have iha := canW_any fs hfl a
    have ihb := canW_any fs hfl b
    exact canW_two fs 43 (.inl rfl) w g pa pb A _ c B bw bf bn F cF k (a.cw fs ar k).2 (b.cw fs ar (a.cw fs ar k).2).2 (a.cw fs ar k).1 (b.cw fs ar (a.cw fs ar k).2).1 (by omega) (by omega) hb h
      (fun w1 hw => iha w1 pa A c ar B bw bf bn F cF k (ha.up hw) (h.up hw) (hA.grown (below_grow hw) (.inl rfl)) hsc.1 (by omega) (by omega) hnm.1 har)
      (fun w1 hc hg => ihb w1 pb A c ar B bw bf bn F cF (a.cw fs ar k).2 (hb'.keep (h.keeps hg)) hc (hA.grown hg (.inl rfl)) hsc.2 (by omega) (by omega) hnm.2 har)
  | .prod a b => fun w p A c ar B bw bf bn F cF k hp h hA hsc h1 h2 hnm har => by
    obtain ⟨pa, pb, ⟨g, rfl, hb⟩, ha, hb'⟩ := hp
    simp only [Ty.atoms, Nat.add_mul] at h1 h2
    obtain ⟨l1, l2, l3⟩ := cw_len fs a ar k hnm.1 har (by omega)
    obtain ⟨l4, l5, l6⟩ := cw_len fs b ar (a.cw fs ar k).2 hnm.2 har (by omega)
    have iha := canW_any fs hfl a
    have ihb := canW_any fs hfl b
    exact canW_two fs 42 (.inr rfl) w g pa pb A _ c B bw bf bn F cF k (a.cw fs ar k).2 (b.cw fs ar (a.cw fs ar k).2).2 (a.cw fs ar k).1 (b.cw fs ar (a.cw fs ar k).2).1 (by omega) (by omega) hb h
      (fun w1 hw => iha w1 pa A c ar B bw bf bn F cF k (ha.up hw) (h.up hw) (hA.grown (below_grow hw) (.inl rfl)) hsc.1 (by omega) (by omega) hnm.1 har)
      (fun w1 hc hg => ihb w1 pb A c ar B bw bf bn F cF (a.cw fs ar k).2 (hb'.keep (h.keeps hg)) hc (hA.grown hg (.inl rfl)) hsc.2 (by omega) (by omega) hnm.2 har)
  | .loop a => fun w p A c ar B bw bf bn F cF k hp h hA hsc h1 h2 hnm har => by
    obtain ⟨pa, ⟨g, rfl, hb⟩, ha⟩ := hp
    simp only [Ty.atoms, Nat.add_mul] at h1 h2
    have hf : k ≤ freshN fs k ∧ freshN fs k ≤ k + fs.length := fresh_le fs fs.length k
    have htn := tN_len10 (freshN fs k) (by omega)
    have har2 : ∀ s ∈ tN (freshN fs k) :: ar, s.length ≤ 10 := by
      intro s hs
      rcases List.mem_cons.1 hs with rfl | hs
      · exact htn
      · exact har s hs
    obtain ⟨l1, l2, l3⟩ := cw_len fs a (tN (freshN fs k) :: ar) (freshN fs k + 1) hnm har2 (by omega)
    have iha := canW_any fs hfl a
    exact canW_loop fs hfl w g pa A ar.length c B bw bf bn F cF k (a.cw fs (tN (freshN fs k) :: ar) (freshN fs k + 1)).2 (a.cw fs (tN (freshN fs k) :: ar) (freshN fs k + 1)).1 (by omega) (by omega)
      (strs ar.reverse) (strs (tN (freshN fs k) :: ar).reverse) (by simp [strs]) (by simp [strs]) (strs_one _ []) (by omega) hb h
      (fun w1 hg => (hA.grown hg (.inl rfl)).cells.row)
      (fun wr w1 g' c' hc hg hw ho => by
        have hlt := hc.hn
        have hgl := lt_of_block hlt
        have hg2 := World.ownsRow.lt ho g' rfl
        have hfar : SFar w1 (some ⟨g', 0, none⟩) bn (tN (freshN fs k) :: ar).reverse := .inr ⟨g', 0, rfl, by omega, hg2.2, fun i l hl => by
          have hi := (List.getElem?_eq_some_iff.1 hl).1
          rw [Nat.zero_add, World.ownsRow.cellAt ho i (by simpa using hi)]
          simp only [strs, List.getElem?_map, hl, Option.map_some]⟩
        have := iha w1 pa (some ⟨g', 0, none⟩) c' (tN (freshN fs k) :: ar) B bw bf bn F cF (freshN fs k + 1) (ha.keep (h.keeps (grow_up2 hg hw))) (hc.up hw) hfar hsc (by simp only [List.length_cons]; omega) (by omega) hnm har2
        exact this)

theorem CN_start {w w1 : World} {B g c : Nat} {fs : List (List UInt8)} (hb : Below w.heap.size w w1) (ho : SOwn w1 w.heap.size fs g c) (hB : B ≤ w.heap.size) (htab : TabB B w) :
    Below w.heap.size w (((w1.alloc (.cells #[.slice (some ⟨g, 0, none⟩) fs.length c] 38)).alloc (.cells #[.int .i64 0] 3)).alloc (.cells #[(.func (.func 176) #[] #[.pointer (some ⟨w1.heap.size + 1 + 1, 0, none⟩), .pointer (some ⟨w1.heap.size, 0, none⟩), .pointer (some ⟨w1.heap.size + 1, 0, none⟩)])] 210)) ∧ CN (((w1.alloc (.cells #[.slice (some ⟨g, 0, none⟩) fs.length c] 38)).alloc (.cells #[.int .i64 0] 3)).alloc (.cells #[(.func (.func 176) #[] #[.pointer (some ⟨w1.heap.size + 1 + 1, 0, none⟩), .pointer (some ⟨w1.heap.size, 0, none⟩), .pointer (some ⟨w1.heap.size + 1, 0, none⟩)])] 210)) B (w1.heap.size + 1 + 1) w1.heap.size (w1.heap.size + 1) (some ⟨g, 0, none⟩) c fs 0 := by
  have hs := hb.size
  have h4 : Below w.heap.size w (((w1.alloc (.cells #[.slice (some ⟨g, 0, none⟩) fs.length c] 38)).alloc (.cells #[.int .i64 0] 3)).alloc (.cells #[(.func (.func 176) #[] #[.pointer (some ⟨w1.heap.size + 1 + 1, 0, none⟩), .pointer (some ⟨w1.heap.size, 0, none⟩), .pointer (some ⟨w1.heap.size + 1, 0, none⟩)])] 210)) := up_alloc (up_alloc (up_alloc hb _) _) _
  refine ⟨h4, ⟨?_, ?_, ?_, ?_, htab.below (h4.mono hB), by omega, by omega, by omega⟩⟩
  · exact new3 w1 (.cells #[.slice (some ⟨g, 0, none⟩) fs.length c] 38) (.cells #[.int .i64 0] 3) (.cells #[(.func (.func 176) #[] #[.pointer (some ⟨w1.heap.size + 1 + 1, 0, none⟩), .pointer (some ⟨w1.heap.size, 0, none⟩), .pointer (some ⟨w1.heap.size + 1, 0, none⟩)])] 210)
  · exact block_alloc (old2 w1 _ _) _
  · exact block_alloc (new2 w1 (.cells #[.slice (some ⟨g, 0, none⟩) fs.length c] 38) (.cells #[.int .i64 0] 3)) _
  · have hl := ho.lt
    have hup : Below w1.heap.size w1 (((w1.alloc (.cells #[.slice (some ⟨g, 0, none⟩) fs.length c] 38)).alloc (.cells #[.int .i64 0] 3)).alloc (.cells #[(.func (.func 176) #[] #[.pointer (some ⟨w1.heap.size + 1 + 1, 0, none⟩), .pointer (some ⟨w1.heap.size, 0, none⟩), .pointer (some ⟨w1.heap.size + 1, 0, none⟩)])] 210)) := up_alloc (up_alloc (up1 w1 _) _) _
    have ho2 := ho.up hup
    exact .inr ⟨g, 0, rfl, by omega, ho2.lt.2, fun i l hl => by
      rw [Nat.zero_add]
      exact ho2.cell i l hl⟩

/-- canon, whole. -/
theorem canon_any (t : Ty) (B : Nat) (w : World) (p : Option Addr) (hp : TyAt w t p) (ht : t.atoms ≤ 900) (hsc : t.scoped 0) (hnm : t.nmle) (htab : TabB B w) (hB : B ≤ w.heap.size) :
    Calls Tryz.prog 144 #[.pointer p] w fun e w' => e = .returned (.string (St t.canonL)) ∧ Below w.heap.size w w' := by
  have hfl : t.fnames.length ≤ 900 := by
    have h1 := fold_m (fun (l : List (List UInt8)) => l.length) nstep (fun acc u => nstep_len acc u) t.pre []
    have h2 := pre_len t
    simp only [List.length_nil] at h1
    unfold Ty.fnames
    omega
  have hmul : t.atoms * (t.fnames.length + 1) ≤ 900 * 901 := Nat.mul_le_mul ht (by omega)
  have HNM : Hid (Calls Tryz.prog 175 #[.pointer p] w (LPost w t.fnames)) := names_any t w p hp ht
  have HW : Hid (∀ (w1 : World) (bw bf bn : Nat) (F : Option Addr) (cF : Nat), Below w.heap.size w w1 → CN w1 B bw bf bn F cF t.fnames 0 →
      Calls Tryz.prog 176 #[.pointer p, .slice none 0 0, .pointer (some ⟨bw, 0, none⟩), .pointer (some ⟨bf, 0, none⟩), .pointer (some ⟨bn, 0, none⟩)] w1 (CPost w1 B bw bf bn F cF t.fnames (t.cw t.fnames [] 0))) :=
    fun w1 bw bf bn F cF hb hc => canW_any t.fnames (by omega) t w1 p none 0 [] B bw bf bn F cF 0 (hp.up hb) hc (.inl rfl) hsc (by simp; omega) (by omega) hnm (by simp)
  have HT := Lib.hid htab
  have HB := Lib.hid hB
  obtain ⟨res, hres⟩ : ∃ res, res = t.cw t.fnames [] 0 := ⟨_, rfl⟩
  rw [Ty.canonL, ← hres]
  rw [← hres] at HW
  clear hp ht hsc hnm htab hB hfl hmul hres
  generalize t.fnames = fs at *
  go_enter Tryz.func144, Tryz.ntmps144
  go_wp2_with (first
    | (go_at_call 175; (with_reducible refine HNM.out.mono ?_); rintro e w1 ⟨hb1, g, c, rfl, ho⟩; have HS := Lib.hid (CN_start hb1 ho HB.out HT.out); have HB1 := Lib.hid hb1; clear hb1 ho)
    | (go_at_call 176; (with_reducible refine (HW.out _ _ _ _ _ _ HS.out.1 HS.out.2).mono ?_); rintro e w5 ⟨rfl, hn5, hg5⟩; have HB5 : Hid (Below w.heap.size w w5) := HS.out.1.grown hg5 HS.out.1.size (fun k hk => by cases hk; have := HB1.out.size; omega); clear hn5 hg5))
  go_ret
  exact ⟨rfl, HB5.out⟩

/-- A text and whether there is one. -/
def outT : Option (List UInt8) → Value
  | none => .tuple #[.string (St []), .bool false]
  | some s => .tuple #[.string (St s), .bool true]

set_option maxHeartbeats 4000000 in
theorem told_any (t : Ty) (B : Nat) (w : World) (p : Option Addr) (hp : TyAt w t p) (ht : t.atoms ≤ 1000000000) (hsc : t.scoped 0) (hnm : t.nmle) (htab : TabB B w) (hB : B ≤ w.heap.size) :
    Calls Tryz.prog 83 #[.pointer p] w fun e w' => e = .returned (outT t.told) ∧ Below w.heap.size w w' := by
  have HAT : Hid (Calls Tryz.prog 143 #[.pointer p] w fun e w' => e = .returned (.int .i64 t.atoms) ∧ Below w.heap.size w w') := (tyAtoms_any t w p hp ht).mono fun e w' ⟨h1, m, h2⟩ => ⟨h1, by rw [h2]; exact up_drewN _ _⟩
  by_cases hb : 400 < t.atoms
  · have h1 : decide ((400 : Int) < t.atoms) = true := decide_eq_true (by omega)
    have h2 : decide ((t.atoms : Int) > 400) = true := decide_eq_true (by omega)
    have h3 : decide (400 < t.atoms) = true := decide_eq_true hb
    rw [Ty.told, if_pos hb]
    clear hp ht hsc hnm htab hB
    generalize t.atoms = a at *
    go_enter Tryz.func83, Tryz.ntmps83
    go_wp2_with (go_at_call 143; (with_reducible refine HAT.out.mono ?_); rintro e w1 ⟨rfl, hb1⟩; have HB1 := Lib.hid hb1; clear hb1)
    go_ret2
    exact ⟨rfl, HB1.out⟩
  · have h1 : decide ((400 : Int) < t.atoms) = false := decide_eq_false (by omega)
    have h2 : decide ((t.atoms : Int) > 400) = false := decide_eq_false (by omega)
    have h3 : decide (400 < t.atoms) = false := decide_eq_false hb
    have hmul : t.atoms * (t.fnames.length + 1) ≤ 400 * 401 := Nat.mul_le_mul (by omega) (by
      have h1 := fold_m (fun (l : List (List UInt8)) => l.length) nstep (fun acc u => nstep_len acc u) t.pre []
      have h2 := pre_len t
      simp only [List.length_nil] at h1
      unfold Ty.fnames
      omega)
    have hlen : t.canonL.length ≤ 10000 := by
      have := (cw_len t.fnames t [] 0 hnm (by simp) (by omega)).1
      unfold Ty.canonL
      omega
    have HCN : Hid (∀ w1, Below w.heap.size w w1 → Calls Tryz.prog 144 #[.pointer p] w1 fun e w' => e = .returned (.string (St t.canonL)) ∧ Below w1.heap.size w1 w') := fun w1 hw => canon_any t B w1 p (hp.up hw) (by omega) hsc hnm (htab.below (hw.mono hB)) (by have := hw.size; omega)
    have HRT : Hid (∀ w1, Calls Tryz.prog 82 #[.string (St t.canonL)] w1 (RTPost w1 (rdTy t.canonL))) := fun w1 => readType_rt (St t.canonL) w1 (by show t.canonL.length ≤ _; omega)
    rw [Ty.told, if_neg hb]
    clear hp ht hsc hnm htab hB hmul hlen
    generalize t.atoms = a at *
    generalize t.canonL = tx at *
    cases ho : rdTy tx with
    | none =>
      rw [if_pos rfl]
      rw [ho] at HRT
      have HRT' : Hid (∀ w1 : World, Calls Tryz.prog 82 #[.string (St tx)] w1 fun e w' => Below w1.heap.size w1 w' ∧ e = .returned (.pointer none)) := HRT
      clear HRT ho
      go_enter Tryz.func83, Tryz.ntmps83
      go_wp2_with (first
        | (go_at_call 143; (with_reducible refine HAT.out.mono ?_); rintro e w1 ⟨rfl, hb1⟩; have HB1 := Lib.hid hb1; clear hb1)
        | (go_at_call 144; (with_reducible refine (HCN.out _ HB1.out).mono ?_); rintro e w2 ⟨rfl, hb2⟩; have HB2 := Lib.hid (up_trans HB1.out hb2); clear hb2)
        | (go_at_call 82; (with_reducible refine (HRT'.out _).mono ?_); rintro e w3 ⟨hb3, rfl⟩; have HB3 := Lib.hid (up_trans HB2.out hb3); clear hb3))
      go_ret2
      exact ⟨rfl, HB3.out⟩
    | some m =>
      rw [if_neg (by simp)]
      rw [ho] at HRT
      have HRT' : Hid (∀ w1 : World, Calls Tryz.prog 82 #[.string (St tx)] w1 fun e w' => Below w1.heap.size w1 w' ∧ ∃ g, e = .returned (.pointer (some ⟨g, 0, none⟩))) := fun w1 => (HRT.out w1).mono fun e w' ⟨h1, g, h2, _⟩ => ⟨h1, g, h2⟩
      clear HRT ho
      go_enter Tryz.func83, Tryz.ntmps83
      go_wp2_with (first
        | (go_at_call 143; (with_reducible refine HAT.out.mono ?_); rintro e w1 ⟨rfl, hb1⟩; have HB1 := Lib.hid hb1; clear hb1)
        | (go_at_call 144; (with_reducible refine (HCN.out _ HB1.out).mono ?_); rintro e w2 ⟨rfl, hb2⟩; have HB2 := Lib.hid (up_trans HB1.out hb2); clear hb2)
        | (go_at_call 82; (with_reducible refine (HRT'.out _).mono ?_); rintro e w3 ⟨hb3, g, rfl⟩; have HB3 := Lib.hid (up_trans HB2.out hb3); clear hb3))
      go_ret2
      exact ⟨rfl, HB3.out⟩

end Go.Proofs.YtpokompplapkhaaGreatDoor
