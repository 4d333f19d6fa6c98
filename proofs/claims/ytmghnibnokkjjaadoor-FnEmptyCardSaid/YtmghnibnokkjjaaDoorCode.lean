/- A code, a slice of bytes that the caller hands in; the draw of a type's text. -/
import Derived.Test.YtmghnibnokkjjaaDoorDraw3
import Derived.ProofKit
import Derived.OpenShut
import Derived.LaidMore
import Derived.Lay
import Derived.ChangeSlices
namespace Go.Proofs.YtmghnibnokkjjaaDoor
open Go.ChangeShapes Go.WideShapes Go.ChangeAt Go.ChangeMaps Go.RowKit
set_option linter.unusedVariables false
set_option linter.unusedSimpArgs false

theorem codeCells : Tryd.prog.cellsOf 5 = 1 := by kernel_rfl
theorem codeLaid : laidOutB Tryd.prog = true := by kernel_rfl

/-- Bytes that the caller handed in. -/
def CodeRow (W : World) (a : Option Addr) (n c : Nat) : Prop :=
  n ≤ c ∧ (n = 0 ∨ ∃ g o, a = some ⟨g, o, none⟩ ∧ g < W.heap.size ∧ ∀ i, i < n → ∃ b : Nat, b < 256 ∧ W.cell? ⟨g, o + i, none⟩ = some (.int .u8 b))

theorem u8_wf {n : Int} (h : (Lit.int .u8 n).wf = true) : 0 ≤ n ∧ n ≤ 255 := by
  have h1 : IntKind.u8.min = 0 := rfl
  have h2 : IntKind.u8.max = 255 := rfl
  simp only [Lit.wf, Bool.and_eq_true, decide_eq_true_eq] at h
  omega

theorem open_code {H : Type} {enc : TypeId × Value → H} {W : World} {fuel : Nat} {a : Option Addr} {n c : Nat} {d : DataW H} {p : List MemPlace}
    (hf : DataW.trod enc Tryd.prog W 0 (fun _ => true) true fuel 26 (Value.slice a n c).cells.toList = some (d, p)) (hlt : ∀ x ∈ p, x.block < W.heap.size) : CodeRow W a n c := by
  rcases open_ints Tryd.underlying26 Tryd.underlying5 codeCells hf with ⟨hcs, hx⟩ | ⟨a', len', cap', zs, hcs, _, hl, hm, hz, hx, hcell, hwz⟩
  · simp [Value.cells] at hcs
    obtain ⟨rfl, rfl, rfl⟩ := hcs
    exact ⟨Nat.le_refl _, .inl rfl⟩
  · simp [Value.cells] at hcs
    obtain ⟨rfl, rfl, rfl⟩ := hcs
    simp only [Prod.mk.injEq] at hx
    obtain ⟨rfl, rfl⟩ := hx
    simp only [if_true] at hz
    refine ⟨hl, ?_⟩
    by_cases hn : n = 0
    · exact .inl hn
    · obtain ⟨b, off, spot⟩ := a'
      have hspot : spot = none := by simpa [Addr.add] using World.cell?_spot (hcell 0 (by omega))
      subst hspot
      have hbW : b < W.heap.size := hlt (.cell b off) (MemPlace.mem_row.2 ⟨0, by omega, by simp⟩)
      refine .inr ⟨b, off, rfl, hbW, fun i hi => ?_⟩
      have hi' : i < zs.length := by omega
      have hw := u8_wf (hwz (zs.getD i 0) (by
        have : zs.getD i 0 = zs[i] := by simp [List.getD, hi']
        rw [this]
        exact List.getElem_mem hi'))
      refine ⟨(zs.getD i 0).toNat, by omega, ?_⟩
      rw [show ((zs.getD i 0).toNat : Int) = zs.getD i 0 by omega, ← add_plain]
      exact hcell i hi'

/-- What a draw of one text does. -/
def TextPost (w : World) (e : Ending) (w' : World) : Prop := ∃ s : ByteArray, s.size ≤ 100000 ∧ e = .returned (.string s) ∧ Below w.heap.size w w'

theorem DrawTypeSize_any (a : Option Addr) (n c : Nat) (w : World) (h : CodeRow w a n c) : Calls Tryd.prog 21 #[.slice a n c] w (TextPost w) := by
  have HO := Lib.hid (l6Open_any a n c w h.1 h.2)
  have HT : Hid (∀ (w : World) (r : Nat) (B : Option Addr) (n c : Nat), RB w r B n c 0 → Calls Tryd.prog 51 #[.pointer (some ⟨r, 0, none⟩)] w (DPost w r B n c (0 + 10000) 100000)) := fun w r B n c h => l91Type_any r B n c 0 w h (by omega)
  clear h
  go_enter Tryd.func21, Tryd.ntmps21
  go_wp2_with (first
    | (go_at_call 52; refine HO.out.mono ?_; rintro e w1 ⟨r, B', n', c', rfl, hr, hb, hlt⟩; have HR := Lib.hid hr; have HB := Lib.hid hb; have HL := Lib.hid hlt; clear hr hb hlt)
    | (go_at_call 51; refine (HT.out _ _ _ _ _ HR.out).mono ?_; rintro e w2 ⟨s, hs, rfl, _, hg⟩; have HS := Lib.hid hs; have HB2 := Lib.hid (up_grown HB.out hg HL.out); clear hs hg))
  go_ret
  exact ⟨s, HS.out, rfl, HB2.out⟩

end Go.Proofs.YtmghnibnokkjjaaDoor
