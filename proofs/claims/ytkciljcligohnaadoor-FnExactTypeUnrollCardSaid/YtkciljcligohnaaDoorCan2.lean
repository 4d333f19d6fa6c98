/- The program's canon and told; TypeCanon. -/
import Derived.Test.YtkciljcligohnaaDoorCan
import Derived.Test.YtkciljcligohnaaDoorRound
import Derived.Test.YtkciljcligohnaaDoorTy4
import Derived.Laws.EntriesVeiled
namespace Go.Proofs.YtkciljcligohnaaDoor
open Go.RowKit
set_option linter.unusedVariables false
set_option linter.unusedSimpArgs false

theorem canW_any (fs : List (List UInt8)) (hfl : fs.length ≤ 100000) : ∀ (t : Ty), LC fs t
  | .zero => fun w p A c ar B bw bf bn F cF k hp h hA hsc h1 h2 hnm har => canW_digit fs 48 (.inl rfl) w p A _ c B bw bf bn F cF k hp h
  | .one => fun w p A c ar B bw bf bn F cF k hp h hA hsc h1 h2 hnm har => canW_digit fs 49 (.inr rfl) w p A _ c B bw bf bn F cF k hp h
  | .name s => canW_name fs s
  | .bound i => canW_bound fs i
  | .sum a b => fun w p A c ar B bw bf bn F cF k hp h hA hsc h1 h2 hnm har => by
    obtain ⟨pa, pb, ⟨g, rfl, hb⟩, ha, hb'⟩ := hp
    simp only [Ty.atoms, Nat.add_mul] at h1 h2
    obtain ⟨l1, l2, l3⟩ := cw_len fs a ar k hnm.1 har (by omega)
    obtain ⟨l4, l5, l6⟩ := cw_len fs b ar (a.cw fs ar k).2 hnm.2 har (by omega)
    have iha := canW_any fs hfl a
    have ihb := canW_any fs hfl b
    exact canW_two fs 43 (.inl rfl) w g pa pb A _ c B bw bf bn F cF k (a.cw fs ar k).2 (b.cw fs ar (a.cw fs ar k).2).2 (a.cw fs ar k).1 (b.cw fs ar (a.cw fs ar k).2).1 (by omega) (by omega) hb h
      (fun w1 hw => iha w1 pa A c ar B bw bf bn F cF k (ha.up hw) (h.up hw) (hA.grown (below_grow hw) (.inl rfl)) hsc.1 (by omega) (by omega) hnm.1 har)
      (fun w1 hc hg => ihb w1 pb A c ar B bw bf bn F cF (a.cw fs ar k).2 (hb'.keep (h.keeps hg)) hc (hA.grown hg (.inl rfl)) hsc.2 (by omega) (by omega) hnm.2 har)
  | .prod a b => fun w p A c ar B bw bf bn F cF k hp h hA hsc h1 h2 hnm har => by
    obtain ⟨pa, pb, ⟨g, rfl, hb⟩, ha, hb'⟩ := hp
    simp only [Ty.atoms, Nat.add_mul] at h1 h2
    obtain ⟨l1, l2, l3⟩ := cw_len fs a ar k hnm.1 har (by omega)
    obtain ⟨l4, l5, l6⟩ := cw_len fs b ar (a.cw fs ar k).2 hnm.2 har (by omega)
    have iha := canW_any fs hfl a
    have ihb := canW_any fs hfl b
    exact canW_two fs 42 (.inr rfl) w g pa pb A _ c B bw bf bn F cF k (a.cw fs ar k).2 (b.cw fs ar (a.cw fs ar k).2).2 (a.cw fs ar k).1 (b.cw fs ar (a.cw fs ar k).2).1 (by omega) (by omega) hb h
      (fun w1 hw => iha w1 pa A c ar B bw bf bn F cF k (ha.up hw) (h.up hw) (hA.grown (below_grow hw) (.inl rfl)) hsc.1 (by omega) (by omega) hnm.1 har)
      (fun w1 hc hg => ihb w1 pb A c ar B bw bf bn F cF (a.cw fs ar k).2 (hb'.keep (h.keeps hg)) hc (hA.grown hg (.inl rfl)) hsc.2 (by omega) (by omega) hnm.2 har)
  | .loop a => fun w p A c ar B bw bf bn F cF k hp h hA hsc h1 h2 hnm har => by
    obtain ⟨pa, ⟨g, rfl, hb⟩, ha⟩ := hp
    simp only [Ty.atoms, Nat.add_mul] at h1 h2
    have hf : k ≤ freshN fs k ∧ freshN fs k ≤ k + fs.length := fresh_le fs fs.length k
    have htn := tN_len10 (freshN fs k) (by omega)
    have har2 : ∀ s ∈ tN (freshN fs k) :: ar, s.length ≤ 10 := by
      intro s hs
      rcases List.mem_cons.1 hs with rfl | hs
      · exact htn
      · exact har s hs
    obtain ⟨l1, l2, l3⟩ := cw_len fs a (tN (freshN fs k) :: ar) (freshN fs k + 1) hnm har2 (by omega)
    have iha := canW_any fs hfl a
    exact canW_loop fs hfl w g pa A ar.length c B bw bf bn F cF k (a.cw fs (tN (freshN fs k) :: ar) (freshN fs k + 1)).2 (a.cw fs (tN (freshN fs k) :: ar) (freshN fs k + 1)).1 (by omega) (by omega)
      (strs ar.reverse) (strs (tN (freshN fs k) :: ar).reverse) (by simp [strs]) (by simp [strs]) (strs_one _ []) (by omega) hb h
      (fun w1 hg => (hA.grown hg (.inl rfl)).cells.row)
      (fun wr w1 g' c' hc hg hw ho => by
        have hlt := hc.hn
        have hgl := lt_of_block hlt
        have hg2 := World.ownsRow.lt ho g' rfl
        have hfar : SFar w1 (some ⟨g', 0, none⟩) bn (tN (freshN fs k) :: ar).reverse := .inr ⟨g', 0, rfl, by omega, hg2.2, fun i l hl => by
          have hi := (List.getElem?_eq_some_iff.1 hl).1
          rw [Nat.zero_add, World.ownsRow.cellAt ho i (by simpa using hi)]
          simp only [strs, List.getElem?_map, hl, Option.map_some]⟩
        have := iha w1 pa (some ⟨g', 0, none⟩) c' (tN (freshN fs k) :: ar) B bw bf bn F cF (freshN fs k + 1) (ha.keep (h.keeps (grow_up2 hg hw))) (hc.up hw) hfar hsc (by simp only [List.length_cons]; omega) (by omega) hnm har2
        exact this)

theorem CN_start {w w1 : World} {B g c : Nat} {fs : List (List UInt8)} (hb : Below w.heap.size w w1) (ho : SOwn w1 w.heap.size fs g c) (hB : B ≤ w.heap.size) (htab : TabB B w) :
    Below w.heap.size w (((w1.alloc (.cells #[.slice (some ⟨g, 0, none⟩) fs.length c] 33)).alloc (.cells #[.int .i64 0] 3)).alloc (.cells #[(.func (.func 103) #[] #[.pointer (some ⟨w1.heap.size + 1 + 1, 0, none⟩), .pointer (some ⟨w1.heap.size, 0, none⟩), .pointer (some ⟨w1.heap.size + 1, 0, none⟩)])] 104)) ∧ CN (((w1.alloc (.cells #[.slice (some ⟨g, 0, none⟩) fs.length c] 33)).alloc (.cells #[.int .i64 0] 3)).alloc (.cells #[(.func (.func 103) #[] #[.pointer (some ⟨w1.heap.size + 1 + 1, 0, none⟩), .pointer (some ⟨w1.heap.size, 0, none⟩), .pointer (some ⟨w1.heap.size + 1, 0, none⟩)])] 104)) B (w1.heap.size + 1 + 1) w1.heap.size (w1.heap.size + 1) (some ⟨g, 0, none⟩) c fs 0 := by
  have hs := hb.size
  have h4 : Below w.heap.size w (((w1.alloc (.cells #[.slice (some ⟨g, 0, none⟩) fs.length c] 33)).alloc (.cells #[.int .i64 0] 3)).alloc (.cells #[(.func (.func 103) #[] #[.pointer (some ⟨w1.heap.size + 1 + 1, 0, none⟩), .pointer (some ⟨w1.heap.size, 0, none⟩), .pointer (some ⟨w1.heap.size + 1, 0, none⟩)])] 104)) := up_alloc (up_alloc (up_alloc hb _) _) _
  refine ⟨h4, ⟨?_, ?_, ?_, ?_, htab.below (h4.mono hB), by omega, by omega, by omega⟩⟩
  · exact new3 w1 (.cells #[.slice (some ⟨g, 0, none⟩) fs.length c] 33) (.cells #[.int .i64 0] 3) (.cells #[(.func (.func 103) #[] #[.pointer (some ⟨w1.heap.size + 1 + 1, 0, none⟩), .pointer (some ⟨w1.heap.size, 0, none⟩), .pointer (some ⟨w1.heap.size + 1, 0, none⟩)])] 104)
  · exact block_alloc (old2 w1 _ _) _
  · exact block_alloc (new2 w1 (.cells #[.slice (some ⟨g, 0, none⟩) fs.length c] 33) (.cells #[.int .i64 0] 3)) _
  · have hl := ho.lt
    have hup : Below w1.heap.size w1 (((w1.alloc (.cells #[.slice (some ⟨g, 0, none⟩) fs.length c] 33)).alloc (.cells #[.int .i64 0] 3)).alloc (.cells #[(.func (.func 103) #[] #[.pointer (some ⟨w1.heap.size + 1 + 1, 0, none⟩), .pointer (some ⟨w1.heap.size, 0, none⟩), .pointer (some ⟨w1.heap.size + 1, 0, none⟩)])] 104)) := up_alloc (up_alloc (up1 w1 _) _) _
    have ho2 := ho.up hup
    exact .inr ⟨g, 0, rfl, by omega, ho2.lt.2, fun i l hl => by
      rw [Nat.zero_add]
      exact ho2.cell i l hl⟩

/-- canon, whole. -/
theorem canon_any (t : Ty) (B : Nat) (w : World) (p : Option Addr) (hp : TyAt w t p) (ht : t.atoms ≤ 900) (hsc : t.scoped 0) (hnm : t.nmle) (htab : TabB B w) (hB : B ≤ w.heap.size) :
    Calls Tryd.prog 82 #[.pointer p] w fun e w' => e = .returned (.string (St t.canonL)) ∧ Below w.heap.size w w' := by
  have hfl : t.fnames.length ≤ 900 := by
    have h1 := fold_m (fun (l : List (List UInt8)) => l.length) nstep (fun acc u => nstep_len acc u) t.pre []
    have h2 := pre_len t
    simp only [List.length_nil] at h1
    unfold Ty.fnames
    omega
  have hmul : t.atoms * (t.fnames.length + 1) ≤ 900 * 901 := Nat.mul_le_mul ht (by omega)
  have HNM : Hid (Calls Tryd.prog 62 #[.pointer p] w (LPost w t.fnames)) := names_any t w p hp ht
  have HW : Hid (∀ (w1 : World) (bw bf bn : Nat) (F : Option Addr) (cF : Nat), Below w.heap.size w w1 → CN w1 B bw bf bn F cF t.fnames 0 →
      Calls Tryd.prog 103 #[.pointer p, .slice none 0 0, .pointer (some ⟨bw, 0, none⟩), .pointer (some ⟨bf, 0, none⟩), .pointer (some ⟨bn, 0, none⟩)] w1 (CPost w1 B bw bf bn F cF t.fnames (t.cw t.fnames [] 0))) :=
    fun w1 bw bf bn F cF hb hc => canW_any t.fnames (by omega) t w1 p none 0 [] B bw bf bn F cF 0 (hp.up hb) hc (.inl rfl) hsc (by simp; omega) (by omega) hnm (by simp)
  have HT := Lib.hid htab
  have HB := Lib.hid hB
  obtain ⟨res, hres⟩ : ∃ res, res = t.cw t.fnames [] 0 := ⟨_, rfl⟩
  rw [Ty.canonL, ← hres]
  rw [← hres] at HW
  clear hp ht hsc hnm htab hB hfl hmul hres
  generalize t.fnames = fs at *
  go_enter Tryd.func82, Tryd.ntmps82
  go_wp2_with (first
    | (go_at_call 62; (with_reducible refine HNM.out.mono ?_); rintro e w1 ⟨hb1, g, c, rfl, ho⟩; have HS := Lib.hid (CN_start hb1 ho HB.out HT.out); have HB1 := Lib.hid hb1; clear hb1 ho)
    | (go_at_call 103; (with_reducible refine (HW.out _ _ _ _ _ _ HS.out.1 HS.out.2).mono ?_); rintro e w5 ⟨rfl, hn5, hg5⟩; have HB5 : Hid (Below w.heap.size w w5) := HS.out.1.grown hg5 HS.out.1.size (fun k hk => by cases hk; have := HB1.out.size; omega); clear hn5 hg5))
  go_ret
  exact ⟨rfl, HB5.out⟩

/-- A text and whether there is one. -/
def outT : Option (List UInt8) → Value
  | none => .tuple #[.string (St []), .bool false]
  | some s => .tuple #[.string (St s), .bool true]

set_option maxHeartbeats 4000000 in
theorem told_any (t : Ty) (B : Nat) (w : World) (p : Option Addr) (hp : TyAt w t p) (ht : t.atoms ≤ 1000000000) (hsc : t.scoped 0) (hnm : t.nmle) (htab : TabB B w) (hB : B ≤ w.heap.size) :
    Calls Tryd.prog 47 #[.pointer p] w fun e w' => e = .returned (outT t.told) ∧ Below w.heap.size w w' := by
  have HAT : Hid (Calls Tryd.prog 63 #[.pointer p] w fun e w' => e = .returned (.int .i64 t.atoms) ∧ Below w.heap.size w w') := (tyAtoms_any t w p hp ht).mono fun e w' ⟨h1, m, h2⟩ => ⟨h1, by rw [h2]; exact up_drewN _ _⟩
  by_cases hb : 400 < t.atoms
  · have h1 : decide ((400 : Int) < t.atoms) = true := decide_eq_true (by omega)
    have h2 : decide ((t.atoms : Int) > 400) = true := decide_eq_true (by omega)
    have h3 : decide (400 < t.atoms) = true := decide_eq_true hb
    rw [Ty.told, if_pos hb]
    clear hp ht hsc hnm htab hB
    generalize t.atoms = a at *
    go_enter Tryd.func47, Tryd.ntmps47
    go_wp2_with (go_at_call 63; (with_reducible refine HAT.out.mono ?_); rintro e w1 ⟨rfl, hb1⟩; have HB1 := Lib.hid hb1; clear hb1)
    go_ret2
    exact ⟨rfl, HB1.out⟩
  · have h1 : decide ((400 : Int) < t.atoms) = false := decide_eq_false (by omega)
    have h2 : decide ((t.atoms : Int) > 400) = false := decide_eq_false (by omega)
    have h3 : decide (400 < t.atoms) = false := decide_eq_false hb
    have hmul : t.atoms * (t.fnames.length + 1) ≤ 400 * 401 := Nat.mul_le_mul (by omega) (by
      have h1 := fold_m (fun (l : List (List UInt8)) => l.length) nstep (fun acc u => nstep_len acc u) t.pre []
      have h2 := pre_len t
      simp only [List.length_nil] at h1
      unfold Ty.fnames
      omega)
    have hlen : t.canonL.length ≤ 10000 := by
      have := (cw_len t.fnames t [] 0 hnm (by simp) (by omega)).1
      unfold Ty.canonL
      omega
    have HCN : Hid (∀ w1, Below w.heap.size w w1 → Calls Tryd.prog 82 #[.pointer p] w1 fun e w' => e = .returned (.string (St t.canonL)) ∧ Below w1.heap.size w1 w') := fun w1 hw => canon_any t B w1 p (hp.up hw) (by omega) hsc hnm (htab.below (hw.mono hB)) (by have := hw.size; omega)
    have HRT : Hid (∀ w1, Calls Tryd.prog 46 #[.string (St t.canonL)] w1 (RTPost w1 (rdTy t.canonL))) := fun w1 => readType_rt (St t.canonL) w1 (by show t.canonL.length ≤ _; omega)
    rw [Ty.told, if_neg hb]
    clear hp ht hsc hnm htab hB hmul hlen
    generalize t.atoms = a at *
    generalize t.canonL = tx at *
    cases ho : rdTy tx with
    | none =>
      rw [if_pos rfl]
      rw [ho] at HRT
      have HRT' : Hid (∀ w1 : World, Calls Tryd.prog 46 #[.string (St tx)] w1 fun e w' => Below w1.heap.size w1 w' ∧ e = .returned (.pointer none)) := HRT
      clear HRT ho
      go_enter Tryd.func47, Tryd.ntmps47
      go_wp2_with (first
        | (go_at_call 63; (with_reducible refine HAT.out.mono ?_); rintro e w1 ⟨rfl, hb1⟩; have HB1 := Lib.hid hb1; clear hb1)
        | (go_at_call 82; (with_reducible refine (HCN.out _ HB1.out).mono ?_); rintro e w2 ⟨rfl, hb2⟩; have HB2 := Lib.hid (up_trans HB1.out hb2); clear hb2)
        | (go_at_call 46; (with_reducible refine (HRT'.out _).mono ?_); rintro e w3 ⟨hb3, rfl⟩; have HB3 := Lib.hid (up_trans HB2.out hb3); clear hb3))
      go_ret2
      exact ⟨rfl, HB3.out⟩
    | some m =>
      rw [if_neg (by simp)]
      rw [ho] at HRT
      have HRT' : Hid (∀ w1 : World, Calls Tryd.prog 46 #[.string (St tx)] w1 fun e w' => Below w1.heap.size w1 w' ∧ ∃ g, e = .returned (.pointer (some ⟨g, 0, none⟩))) := fun w1 => (HRT.out w1).mono fun e w' ⟨h1, g, h2, _⟩ => ⟨h1, g, h2⟩
      clear HRT ho
      go_enter Tryd.func47, Tryd.ntmps47
      go_wp2_with (first
        | (go_at_call 63; (with_reducible refine HAT.out.mono ?_); rintro e w1 ⟨rfl, hb1⟩; have HB1 := Lib.hid hb1; clear hb1)
        | (go_at_call 82; (with_reducible refine (HCN.out _ HB1.out).mono ?_); rintro e w2 ⟨rfl, hb2⟩; have HB2 := Lib.hid (up_trans HB1.out hb2); clear hb2)
        | (go_at_call 46; (with_reducible refine (HRT'.out _).mono ?_); rintro e w3 ⟨hb3, g, rfl⟩; have HB3 := Lib.hid (up_trans HB2.out hb3); clear hb3))
      go_ret2
      exact ⟨rfl, HB3.out⟩

end Go.Proofs.YtkciljcligohnaaDoor
