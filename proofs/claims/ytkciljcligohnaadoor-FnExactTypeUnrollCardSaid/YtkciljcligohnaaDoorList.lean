/- l6Dec whole; l1List. -/
import Derived.Test.YtkciljcligohnaaDoorDec
namespace Go.Proofs.YtkciljcligohnaaDoor
open Go.RowKit
set_option linter.unusedVariables false
set_option linter.unusedSimpArgs false

theorem l6Dec_any : ∀ (n : Nat) (w : World), n ≤ 100000000 → Calls Tryd.prog 115 #[.int .i64 n] w fun e w' => e = .returned (.string (St (decL n))) ∧ Below w.heap.size w w' := by
  intro n
  induction n using Nat.strongRecOn with
  | ind n ih =>
    intro w hn
    by_cases h : n < 10
    · exact l6Dec_small n h w
    · exact l6Dec_big n h hn w (fun w => ih (n / 10) (by omega) w (by omega))

/-- The trees of a row that hangs together. -/
theorem Trees.weak {w : World} {ok ok' : Nat → Prop} (hok : ∀ k, ok k → ok' k) {ts : List Tr} {cs : List Value} (h : Trees w ok ts cs) : Trees w ok' ts cs := h.move fun k _ ho => ⟨hok k ho, rfl⟩

theorem Trees.one {w : World} {ok : Nat → Prop} {ts : List Tr} {cs : List Value} (h : Trees w ok ts cs) : ∀ u ∈ cs, u.oneCell' = true := by
  induction h with
  | nil => intro u hu; cases hu
  | cons s ps A c ts cs _ _ _ ih =>
    intro u hu
    rcases List.mem_cons.1 hu with rfl | hu
    · rfl
    · rcases List.mem_cons.1 hu with rfl | hu
      · rfl
      · exact ih u hu

set_option maxHeartbeats 4000000 in
set_option maxRecDepth 100000 in
theorem l1List_any (head : List UInt8) (ts : List Tr) (gp op c : Nat) (cs : List Value) (ok : Nat → Prop) (w : World) (hts : Trees w ok ts cs) (hc : ∀ j u, cs[j]? = some u → w.cell? ⟨gp, op + j, none⟩ = some u) (hn : 0 < ts.length) (hn2 : ts.length ≤ 1000) :
    Calls Tryd.prog 106 #[.string (St head), .slice (some ⟨gp, op, none⟩) ts.length c] w fun e w' => (∃ x A n c, e = .returned (.agg #[.string x, .slice A n c]) ∧ TAt w' (fun k => w.heap.size ≤ k ∨ ok k) (.mk [] (.mk head [] :: ts)) (.agg #[.string x, .slice A n c])) ∧ Below w.heap.size w w' := by
  obtain ⟨i0, hi0, hz0, hz1, hz2⟩ := info_parts Tryd.infoTree
  have hlen := hts.length
  have hone : ∀ u ∈ cs, u.oneCell' = true := hts.one
  have HC : Hid (∀ w1, Below w.heap.size w w1 → ∀ j u, cs[j]? = some u → w1.cell? ((⟨gp, op, none⟩ : Addr).add j) = some u) := fun w1 hb j u hu => by
    have hadd : (⟨gp, op, none⟩ : Addr).add j = ⟨gp, op + j, none⟩ := by unfold Addr.add; split <;> simp_all
    rw [hadd]
    exact cell_up hb (hc j u hu)
  have HL : Hid (cs.length = ts.length * 2) := hlen
  have HONE : Hid (∀ u ∈ cs, u.oneCell' = true) := hone
  have HFIN : Hid (∀ (w1 w2 : World) g cap, Below w.heap.size w w1 → w.heap.size ≤ g → Below w.heap.size w w2 → w2.heap[w.heap.size]? = some (.cells #[.string (St []), .slice none 0 0] 43 (0, 0)) → w2.ownsRow (w.heap.size + 1) 43 2 (.slice (some ⟨g, 0, none⟩) (1 + ts.length) cap) (1 + ts.length) ([.string (St head), .slice none 0 0] ++ cs) →
      TAt ((w2.setCell ⟨w.heap.size, 0, none⟩ (.string (St []))).setCell ⟨w.heap.size, 1, none⟩ (.slice (some ⟨g, 0, none⟩) (1 + ts.length) cap)) (fun k => w.heap.size ≤ k ∨ ok k) (.mk [] (.mk head [] :: ts)) (.agg #[.string (St []), .slice (some ⟨g, 0, none⟩) (1 + ts.length) cap])) := fun w1 w2 g cap _ hg hb2 hres ho => by
    have h2 : Trees w2 (fun k => w.heap.size + 1 ≤ k ∨ (k < w.heap.size ∧ ok k)) ts cs := hts.move fun k hk hok => ⟨.inr ⟨hk, hok⟩, hb2.block k hk⟩
    have h3 : Trees w2 (fun k => w.heap.size + 1 ≤ k ∨ (k < w.heap.size ∧ ok k)) (.mk head [] :: ts) ([.string (St head), .slice none 0 0] ++ cs) := .cons head [] none 0 ts cs (Nat.le_refl _) (.nil _) h2
    obtain ⟨A, c', hv, hcc, hrow⟩ := h3.own ho (by simp; omega) (fun g' hg' => by
      have := ho.lt g' hg'
      exact .inl this.1)
    injection hv with hv1 hv2 hv3
    subst hv1
    subst hv3
    refine ⟨_, _, by simp [Nat.add_comm], hcc, hrow.move fun k hk hok => ⟨?_, ?_⟩⟩
    · rcases hok with h | h
      · exact .inl (by omega)
      · exact .inr h.2
    · have hne : k ≠ w.heap.size := by omega
      rw [Below.heap_setCell _ ⟨w.heap.size, 1, none⟩ _ k hne, Below.heap_setCell _ ⟨w.heap.size, 0, none⟩ _ k hne]
  clear hts hc hlen hone
  generalize hN : ts.length = n at *
  clear hN
  go_enter Tryd.func106, Tryd.ntmps106
  go_wp2_with (at_builtin; refine wpList_append_lies _ rfl _ _ 41 rfl (w.heap.size + 1) 43 i0 (.agg #[.string ⟨#[]⟩, .slice none 0 0]) 2 40 Tryd.underlying41 hi0 hz0 hz1 hz2 rfl (by decide) (.slice (some ⟨w.heap.size + 1, 0, none⟩) 1 1) 1 [.string (St head), .slice none 0 0] rfl (by
      have := World.ownsRow_lit (e := 43) (size := 2) (base := w.heap.size + 1) (w.alloc (.cells #[.string (St []), .slice none 0 0] 43)) #[.string (St head), .slice none 0 0] 1 (by simp) (by decide) (by simp)
      simpa using this) ⟨gp, op, none⟩ n c cs rfl HL.out (HC.out _ (up_alloc (up1 w _) _)) HONE.out hn (by unfold maxLen; omega) (by omega) (by simp) (w.heap.size + 2) (by simp) ?_; intro g cap w2 hown hgrow hat hlt; have g0 : w2.heap[w.heap.size]? = some (.cells #[.string (St []), .slice none 0 0] 43 (0, 0)) := (hgrow.block w.heap.size (by simp; omega) (by simp [Value.ownBlock])).trans (old2 w _ _); have c0 : w2.cell? ⟨w.heap.size, 0, none⟩ = some (.string (St [])) := block_cell g0 0; have c1 : w2.cell? ⟨w.heap.size, 1, none⟩ = some (.slice none 0 0) := block_cell g0 1; have f0 := block_free g0 0; have f1 := block_free g0 1; have l0 := lt_of_block g0; have hgg : w.heap.size ≤ g := (by simp [Value.ownBlock] at hat; omega); have hb2 : Below w.heap.size w w2 := (up_alloc (up1 w _) _).grown hgrow (by simp; omega) (fun k hk => by simp [Value.ownBlock] at hk; omega); have HF := Lib.hid (HFIN.out w w2 g cap (Below.refl _ _) hgg hb2 g0 hown); have HB2 := Lib.hid hb2; clear hown hgrow hat hlt hb2 hgg g0)
  refine bodyPost_ret (v := .agg #[.string (St []), .slice (some ⟨g, 0, none⟩) (1 + n) cap]) (by simp [results, Tryd.results106, go_sem, c0, c1, l0]) rfl ?_
  exact ⟨⟨_, _, _, _, rfl, HF.out⟩, set0 (set0 HB2.out (Nat.le_refl _)) (Nat.le_refl _)⟩

end Go.Proofs.YtkciljcligohnaaDoor
