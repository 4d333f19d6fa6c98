/- Holes in the reference's memory: rows of contexts with what is left out. -/
import Derived.Test.YtpokompplapkhaaGreatDoorNE
import Derived.Test.YtpokompplapkhaaGreatDoorLsT
namespace Go.Proofs.YtpokompplapkhaaGreatDoor
open Go.RowKit
set_option linter.unusedVariables false
set_option linter.unusedSimpArgs false
def TR (w : World) : List (V × V) -> List Value -> Prop
 | [], us => us = []
 | h :: hs, us => ∃ s A n c s2 A2 n2 c2 us', us = .string s :: .slice A n c :: .string s2 :: .slice A2 n2 c2 :: us' /\ TAt w (fun _ => True) h.1.toTr (.agg #[.string s, .slice A n c]) /\ TAt w (fun _ => True) h.2.toTr (.agg #[.string s2, .slice A2 n2 c2]) /\ TR w hs us'
theorem TR.keep {w w1 : World} (hk : Keeps 59 w w1) : ∀ {hs : List (V × V)} {us : List Value}, TR w hs us -> TR w1 hs us
 | [], _, h => h
 | _ :: _, _, ⟨s, A, n, c, s2, A2, n2, c2, us', h1, h2, h3, h4⟩ => ⟨s, A, n, c, s2, A2, n2, c2, us', h1, h2.keep hk, h3.keep hk, TR.keep hk h4⟩
theorem TR.app {w : World} : ∀ {hs hs2 : List (V × V)} {us us2 : List Value}, TR w hs us -> TR w hs2 us2 -> TR w (hs ++ hs2) (us ++ us2)
 | [], _, _, _, h, h2 => by
  have h : _ = [] := h
  subst h
  exact h2
 | _ :: _, _, _, _, ⟨s, A, n, c, s2, A2, n2, c2, us', h1, h2, h3, h4⟩, k => ⟨s, A, n, c, s2, A2, n2, c2, us' ++ _, by rw [h1]; rfl, h2, h3, TR.app h4 k⟩
theorem TR.len {w : World} : ∀ {hs : List (V × V)} {us : List Value}, TR w hs us -> us.length = hs.length * 4
 | [], _, h => by
  have h : _ = [] := h
  subst h
  rfl
 | _ :: _, _, ⟨s, A, n, c, s2, A2, n2, c2, us', h1, h2, h3, h4⟩ => by
  have := TR.len h4
  rw [h1]
  simp only [List.length_cons]
  omega
theorem TR.get {w : World} : ∀ {hs : List (V × V)} {us : List Value}, TR w hs us -> ∀ (i : Nat) (h : V × V), hs[i]? = some h ->
 ∃ s A n c s2 A2 n2 c2, us[4 * i]? = some (.string s) /\ us[4 * i + 1]? = some (.slice A n c) /\ us[4 * i + 2]? = some (.string s2) /\ us[4 * i + 3]? = some (.slice A2 n2 c2) /\ TAt w (fun _ => True) h.1.toTr (.agg #[.string s, .slice A n c]) /\ TAt w (fun _ => True) h.2.toTr (.agg #[.string s2, .slice A2 n2 c2])
 | [], _, _, i, h, hi => by simp at hi
 | _ :: _, _, ⟨s, A, n, c, s2, A2, n2, c2, us', h1, h2, h3, h4⟩, 0, h, hi => by
  simp only [List.getElem?_cons_zero, Option.some.injEq] at hi
  subst hi
  exact ⟨s, A, n, c, s2, A2, n2, c2, by rw [h1]; rfl, by rw [h1]; rfl, by rw [h1]; rfl, by rw [h1]; rfl, h2, h3⟩
 | _ :: _, _, ⟨s, A, n, c, s2, A2, n2, c2, us', h1, h2, h3, h4⟩, i + 1, h, hi => by
  obtain ⟨s, A, n, c, s2, A2, n2, c2, e1, e2, e3, e4, e5⟩ := TR.get h4 i h (by simpa using hi)
  refine ⟨s, A, n, c, s2, A2, n2, c2, ?_, ?_, ?_, ?_, e5⟩
  · rw [h1, show 4 * (i + 1) = 4 * i + 1 + 1 + 1 + 1 by omega]; simpa using e1
  · rw [h1, show 4 * (i + 1) + 1 = 4 * i + 1 + 1 + 1 + 1 + 1 by omega]; simpa using e2
  · rw [h1, show 4 * (i + 1) + 2 = 4 * i + 2 + 1 + 1 + 1 + 1 by omega]; simpa using e3
  · rw [h1, show 4 * (i + 1) + 3 = 4 * i + 3 + 1 + 1 + 1 + 1 by omega]; simpa using e4
def HOw (w : World) (B g c : Nat) (hs : List (V × V)) : Prop := ∃ us, w.ownsRow B 146 4 (.slice (some ⟨g, 0, none⟩) hs.length c) hs.length us /\ TR w hs us
theorem HOw.up {w w' : World} {B g c : Nat} {hs : List (V × V)} (h : HOw w B g c hs) (hb : Below w.heap.size w w') : HOw w' B g c hs := by
 obtain ⟨us, h1, h2⟩ := h
 exact ⟨us, own_up h1 hb, h2.keep (.up hb)⟩
theorem HOw.row {w : World} {B g c : Nat} {hs : List (V × V)} (h : HOw w B g c hs) : (∃ cur, w.heap[g]? = some (.cells cur 146 (0, 0))) /\ B <= g /\ g < w.heap.size := by
 obtain ⟨us, h4, h5⟩ := h
 obtain ⟨hg, hg2⟩ := World.ownsRow.lt h4 g rfl
 rcases h4.2 with ⟨e1, _⟩ | ⟨g', c', cur, e1, _, e2, _⟩
 · cases e1
 · cases e1
   exact ⟨⟨cur, e2⟩, hg, hg2⟩
theorem HOw.keeps {w w' : World} {B g c : Nat} {hs : List (V × V)} (h : HOw w B g c hs) (ho : Ot g g w w') {e : TypeId} (h1 : e ≠ 146) : Keeps e w w' := fun k cs fr hk => by
 obtain ⟨⟨cur, e2⟩, _, _⟩ := h.row
 have hkg : k ≠ g := by
  rintro rfl
  rw [e2] at hk
  injection hk with hk
  injection hk with _ he _
  exact h1 he.symm
 rw [ho.blk k (lt_of_block hk) hkg hkg]
 exact hk
theorem HOw.new (w : World) (B : Nat) (hB : B <= w.heap.size) : HOw (w.alloc (.cells #[] 146)) B w.heap.size 0 [] := ⟨[], own_nils w B 4 hB (by decide) _, rfl⟩
theorem Ot.grown {g : Nat} {w w1 w2 : World} (hb : Below w.heap.size w w1) (hg : w1.grownBy w2 (some g)) : Ot g g w w2 :=
 ⟨Nat.le_trans hb.size hg.size, fun k hk k1 _ => by rw [hg.block k (Nat.lt_of_lt_of_le hk hb.size) (by simpa using k1), hb.block k hk]⟩
theorem HOw.put {w w1 w2 : World} {B g c : Nat} {hs : List (V × V)} {us : List Value} (h : w.ownsRow B 146 4 (.slice (some ⟨g, 0, none⟩) hs.length c) hs.length us) (hl : TR w hs us) (hb : Below w.heap.size w w1) (hg : w1.grownBy w2 (some g)) {g2 c2 n n2 m m2 : Nat} {s s2 : ByteArray} {A A2 : Option Addr} {x : V × V}
 (ho : w2.ownsRow B 146 4 (.slice (some ⟨g2, 0, none⟩) (hs.length + 1) c2) (hs.length + 1) (us ++ [.string s, .slice A n m, .string s2, .slice A2 n2 m2])) (hx : TAt w1 (fun _ => True) x.1.toTr (.agg #[.string s, .slice A n m])) (hy : TAt w1 (fun _ => True) x.2.toTr (.agg #[.string s2, .slice A2 n2 m2])) :
 HOw w2 B g2 c2 (hs ++ [x]) /\ Ot g g w w2 := by
 have kv : Keeps 59 w1 w2 := Keeps.grown (own_up h hb) hg (by decide)
 refine ⟨⟨us ++ [.string s, .slice A n m, .string s2, .slice A2 n2 m2], ?_, ?_⟩, .grown hb hg⟩
 · simpa using ho
 · exact (hl.keep ((Keeps.up hb).trans kv)).app ⟨s, A, n, m, s2, A2, n2, m2, [], rfl, hx.keep kv, hy.keep kv, rfl⟩
def SHPost (w : World) (hs : List (V × V)) (e : Ending) (w' : World) : Prop :=
 Below w.heap.size w w' /\ ∃ g c, e = .returned (.slice (some ⟨g, 0, none⟩) hs.length c) /\ HOw w' w.heap.size g c hs
theorem HOw.reads {w : World} {B g c : Nat} {hs : List (V × V)} {us : List Value} (h : w.ownsRow B 146 4 (.slice (some ⟨g, 0, none⟩) hs.length c) hs.length us) (hl : TR w hs us) : RCells w (some ⟨g, 0, none⟩) us :=
 .inr ⟨g, 0, rfl, fun j u hu => by
  have hj : j < hs.length * 4 := by
   have := (List.getElem?_eq_some_iff.1 hu).1
   rw [hl.len] at this
   exact this
  rw [Nat.zero_add, World.ownsRow.cellAt h j hj]
  exact hu⟩
end Go.Proofs.YtpokompplapkhaaGreatDoor

