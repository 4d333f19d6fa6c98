/- l1Rename whole; l1Apart of one type. -/
import Derived.Test.YtmghnibnokkjjaaDoorRen3
namespace Go.Proofs.YtmghnibnokkjjaaDoor
open Go.RowKit
set_option linter.unusedVariables false
set_option linter.unusedSimpArgs false

theorem rename_leaf (free : List (List UInt8)) (f2 : NT) (s : List UInt8) (hs : s ≠ []) (env : List (List UInt8 × List UInt8)) (hf : f2.toTr = .mk (sub s env) []) (v : Value) (w : World) (A : Option Addr) (c : Nat) (B : Option Addr) (d : Nat) (r : Nat) (F : Option Addr) (cF k : Nat) (okT : Nat → Prop)
    (hp : TAt w okT (.mk s []) v) (hA : SFar w A r (env.reverse.map (·.1))) (hB : SFar w B r (env.reverse.map (·.2))) (hNB : NB w r F cF free k) (hl : env.length ≤ 100000) :
    Calls Tryd.prog 86 #[v, .slice A env.length c, .slice B env.length d, .pointer (some ⟨r, 0, none⟩)] w (RPost w r F cF free (f2, k)) := by
  refine (l1Rename_atom s hs env v w A c B d _ ⟨okT, hp⟩ hA.cells hB.cells hl).mono ?_
  rintro e w' ⟨⟨A', c', he⟩, hb⟩
  exact ⟨St (sub s env), A', 0, c', he, by rw [hf]; exact ⟨A', c', rfl, Nat.zero_le _, .nil _⟩, block_up hb hNB, below_grow hb⟩

theorem not_fst {env : List (List UInt8 × List UInt8)} (henv : ∀ p ∈ env, loopB p.1 = true) {s : List UInt8} (hs : loopB s = false) : s ∉ env.map (·.1) := fun hm => by
  obtain ⟨p, hp, rfl⟩ := List.mem_map.1 hm
  rw [henv p hp] at hs
  cases hs

theorem l1Rename_any (free : List (List UInt8)) (hfree : free.length ≤ 1000) : ∀ (n : NT), n.ok → LRn free n
  | .zero, _ => fun v w A c B d env r F cF k okT hp hok hA hB hNB hF henv h1 h2 =>
    rename_leaf free .zero [48] (by simp) env (by rw [sub_none (not_fst henv (by decide))]; rfl) v w A c B d r F cF k okT hp hA hB hNB (by omega)
  | .one, _ => fun v w A c B d env r F cF k okT hp hok hA hB hNB hF henv h1 h2 =>
    rename_leaf free .one [49] (by simp) env (by rw [sub_none (not_fst henv (by decide))]; rfl) v w A c B d r F cF k okT hp hA hB hNB (by omega)
  | .name s, h => fun v w A c B d env r F cF k okT hp hok hA hB hNB hF henv h1 h2 =>
    rename_leaf free (.name (sub s env)) s (NT.name_nil h) env rfl v w A c B d r F cF k okT hp hA hB hNB (by omega)
  | .sum a b, h => fun v w A c B d env r F cF k okT hp hok hA hB hNB hF henv h1 h2 => by
    simp only [NT.atoms, Nat.add_mul] at h1 h2
    have hle := ren_le free a env k
    exact l1Rename_two free [43] (by decide) a b (.sum (a.ren free env k).1 (b.ren free env (a.ren free env k).2).1) (a.ren free env k).2 (b.ren free env (a.ren free env k).2).2 _ _ rfl v w A c B d env.length r F cF okT hp hok (lt_of_block hNB)
      (fun w1 v hg hb ht => l1Rename_any free hfree a h.1 v w1 A c B d env r F cF k okT ht hok (hA.up hb) (hB.up hb) (block_up hb hNB) (hF.up hb) henv (by omega) (by omega))
      (fun w1 v hg hnb ht => l1Rename_any free hfree b h.2 v w1 A c B d env r F cF _ okT ht hok (hA.grown hg (.inl rfl)) (hB.grown hg (.inl rfl)) hnb (hF.grown hg (.inl rfl)) henv (by omega) (by omega))
  | .prod a b, h => fun v w A c B d env r F cF k okT hp hok hA hB hNB hF henv h1 h2 => by
    simp only [NT.atoms, Nat.add_mul] at h1 h2
    have hle := ren_le free a env k
    exact l1Rename_two free [42] (by decide) a b (.prod (a.ren free env k).1 (b.ren free env (a.ren free env k).2).1) (a.ren free env k).2 (b.ren free env (a.ren free env k).2).2 _ _ rfl v w A c B d env.length r F cF okT hp hok (lt_of_block hNB)
      (fun w1 v hg hb ht => l1Rename_any free hfree a h.1 v w1 A c B d env r F cF k okT ht hok (hA.up hb) (hB.up hb) (block_up hb hNB) (hF.up hb) henv (by omega) (by omega))
      (fun w1 v hg hnb ht => l1Rename_any free hfree b h.2 v w1 A c B d env r F cF _ okT ht hok (hA.grown hg (.inl rfl)) (hB.grown hg (.inl rfl)) hnb (hF.grown hg (.inl rfl)) henv (by omega) (by omega))
  | .loop s a, h => fun v w A c B d env r F cF k okT hp hok hA hB hNB hF henv h1 h2 => by
    simp only [NT.atoms, Nat.add_mul] at h1 h2
    have hle := fresh_le free free.length k
    have hfr : freshN free k ≤ k + free.length := hle.2
    exact l1Rename_rec free s a (.loop (tN (freshN free k)) (a.ren free ((s, tN (freshN free k)) :: env) (freshN free k + 1)).1) k (freshN free k) (a.ren free ((s, tN (freshN free k)) :: env) (freshN free k + 1)).2 _ rfl rfl v w A c B d env.length (env.reverse.map (·.1)) (env.reverse.map (·.2)) (by simp) (by simp) (by omega) r F cF okT hp hok hA hB hF (by omega) hNB (by omega)
      (fun w1 v A1 c1 B1 d1 hg hnb hA1 hB1 ht => l1Rename_any free hfree a h.2 v w1 A1 c1 B1 d1 ((s, tN (freshN free k)) :: env) r F cF (freshN free k + 1) okT ht hok (by simpa using hA1) (by simpa using hB1) hnb (hF.grown hg (.inl rfl))
        (by intro p hp; rcases List.mem_cons.1 hp with rfl | hp; exact h.1; exact henv p hp) (by simp only [List.length_cons]; omega) (by omega))

/-- What l1Apart makes of a type. -/
def NT.apart (n : NT) : NT := (n.ren n.names [] 0).1

set_option maxHeartbeats 8000000 in
set_option maxRecDepth 100000 in
theorem l1Apart_any (n : NT) (hok : n.ok) (hat : n.atoms ≤ 400) (v : Value) (w : World) (okT : Nat → Prop) (c : Nat) (hp : TAt w okT n.toTr v) :
    Calls Tryd.prog 56 #[v, .slice none 0 c] w fun e w' => (∃ x A n' c, e = .returned (.agg #[.string x, .slice A n' c]) ∧ TAt w' (fun k => w.heap.size ≤ k) n.apart.toTr (.agg #[.string x, .slice A n' c])) ∧ Below w.heap.size w w' := by
  obtain ⟨x, A, n', c', rfl⟩ := hp.form
  have hnl := names_len n
  have HF : Hid (Calls Tryd.prog 58 #[.agg #[.string x, .slice A n' c'], .slice (some ⟨w.heap.size + 2, 0, none⟩) 0 0, .slice (some ⟨w.heap.size + 3, 0, none⟩) 0 0] ((((w.alloc (.cells #[.string x, .slice A n' c'] 38)).alloc (.cells #[.string (St []), .slice none 0 0] 38)).alloc (.cells #[] 9)).alloc (.cells #[] 9)) fun e w2 => ∃ g c3, e = .returned (.slice (some ⟨g, 0, none⟩) n.names.length c3) ∧ SOwn w2 w.heap.size n.names g c3 ∧ Below (w.heap.size + 2) ((w.alloc (.cells #[.string x, .slice A n' c'] 38)).alloc (.cells #[.string (St []), .slice none 0 0] 38)) w2) := by
    have e1 : (w.alloc (.cells #[.string x, .slice A n' c'] 38)).heap.size + 2 = w.heap.size + 3 := by simp
    have ho := own_new2 (w.alloc (.cells #[.string x, .slice A n' c'] 38)) (.cells #[.string (St []), .slice none 0 0] 38) w.heap.size (by simp; omega)
    rw [e1] at ho
    have ht := ((((hp.up (up1 w (.cells #[.string x, .slice A n' c'] 38))).up (up1 _ (.cells #[.string (St []), .slice none 0 0] 38))).up (up1 _ (.cells #[] 9))).up (up1 _ (.cells #[] 9))).weak (ok' := fun _ => True) (fun _ _ => trivial)
    refine (l1Free_any n hok _ _ (some ⟨w.heap.size + 2, 0, none⟩) 0 [] w.heap.size (w.heap.size + 3) 0 [] ht (.inl rfl) ho (by simp; omega) (by simp; omega) (by simp; omega)).mono ?_
    rintro e w2 ⟨g, c3, he, ho2, hg, _⟩
    refine ⟨g, c3, he, ho2, ?_⟩
    have hb0 : Below (w.heap.size + 2) ((w.alloc (.cells #[.string x, .slice A n' c'] 38)).alloc (.cells #[.string (St []), .slice none 0 0] 38)) ((((w.alloc (.cells #[.string x, .slice A n' c'] 38)).alloc (.cells #[.string (St []), .slice none 0 0] 38)).alloc (.cells #[] 9)).alloc (.cells #[] 9)) := ((Below.refl _ _).alloc (by simp) _).alloc (by simp) _
    have := hb0.grown hg (by simp) (fun k hk => by cases hk; omega)
    exact this
  have HR : Hid (∀ (w1 : World) g c3, TAt w1 (fun k => k < w1.heap.size) n.toTr (.agg #[.string x, .slice A n' c']) → SOwn w1 w.heap.size n.names g c3 → Calls Tryd.prog 86 #[.agg #[.string x, .slice A n' c'], .slice (some ⟨w1.heap.size, 0, none⟩) 0 0, .slice (some ⟨w1.heap.size + 1, 0, none⟩) 0 0, .pointer (some ⟨w1.heap.size + 2, 0, none⟩)] (((w1.alloc (.cells #[] 9)).alloc (.cells #[] 9)).alloc (.cells #[.slice (some ⟨g, 0, none⟩) n.names.length c3, .int .i64 0] 83)) fun e w2 => ∃ x A n' c, e = .returned (.agg #[.string x, .slice A n' c]) ∧ TAt w2 (fun k => w1.heap.size ≤ k) n.apart.toTr (.agg #[.string x, .slice A n' c]) ∧ Below w1.heap.size w1 w2) := fun w1 g c3 ht ho => by
    have e3 : ((w1.alloc (.cells #[] 9)).alloc (.cells #[] 9)).heap.size = w1.heap.size + 2 := by simp
    have hnb : NB (((w1.alloc (.cells #[] 9)).alloc (.cells #[] 9)).alloc (.cells #[.slice (some ⟨g, 0, none⟩) n.names.length c3, .int .i64 0] 83)) (w1.heap.size + 2) (some ⟨g, 0, none⟩) c3 n.names 0 := by
      have := block_new ((w1.alloc (.cells #[] 9)).alloc (.cells #[] 9)) (.cells #[.slice (some ⟨g, 0, none⟩) n.names.length c3, .int .i64 0] 83)
      rw [e3] at this
      exact this
    have hb3 : Below w1.heap.size w1 (((w1.alloc (.cells #[] 9)).alloc (.cells #[] 9)).alloc (.cells #[.slice (some ⟨g, 0, none⟩) n.names.length c3, .int .i64 0] 83)) := up_alloc (up_alloc (up1 w1 _) _) _
    have hsf : SFar (((w1.alloc (.cells #[] 9)).alloc (.cells #[] 9)).alloc (.cells #[.slice (some ⟨g, 0, none⟩) n.names.length c3, .int .i64 0] 83)) (some ⟨g, 0, none⟩) (w1.heap.size + 2) n.names := by
      have hl := ho.lt
      rcases (ho.up hb3).reads with h0 | ⟨g', o', he', hcell⟩
      · exact .inl h0
      · cases he'
        exact .inr ⟨g, 0, rfl, by omega, by have := hb3.size; omega, hcell⟩
    have ht' : TAt (((w1.alloc (.cells #[] 9)).alloc (.cells #[] 9)).alloc (.cells #[.slice (some ⟨g, 0, none⟩) n.names.length c3, .int .i64 0] 83)) (fun k => k < w1.heap.size) n.toTr (.agg #[.string x, .slice A n' c']) := ht.up hb3
    refine (l1Rename_any n.names (by omega) n hok _ _ (some ⟨w1.heap.size, 0, none⟩) 0 (some ⟨w1.heap.size + 1, 0, none⟩) 0 [] (w1.heap.size + 2) (some ⟨g, 0, none⟩) c3 0 (fun k => k < w1.heap.size) ht' (fun j hj => by omega) (.inl rfl) (.inl rfl) hnb hsf (by simp) (by simp; omega) (by
      have h1 : n.atoms * (n.names.length + 1) ≤ 400 * 401 := Nat.mul_le_mul hat (by omega)
      omega)).mono ?_
    rintro e w2 ⟨x2, A2, n2, c2, he, ht2, _, hg⟩
    refine ⟨x2, A2, n2, c2, he, ht2.move fun k hk ho => ⟨?_, rfl⟩, hb3.grown hg hb3.size (fun k hk => by cases hk; omega)⟩
    have : w1.heap.size + 3 ≤ k := by simpa using ho
    omega
  have HTA : Hid (TAt w (fun k => k < w.heap.size) n.toTr (.agg #[.string x, .slice A n' c'])) := hp.move fun k hk _ => ⟨hk, rfl⟩
  have HR2 : Hid (∀ (w1 : World) g c3, Below w.heap.size w w1 → SOwn w1 w.heap.size n.names g c3 → Calls Tryd.prog 86 #[.agg #[.string x, .slice A n' c'], .slice (some ⟨w1.heap.size, 0, none⟩) 0 0, .slice (some ⟨w1.heap.size + 1, 0, none⟩) 0 0, .pointer (some ⟨w1.heap.size + 1 + 1, 0, none⟩)] (((w1.alloc (.cells #[] 9)).alloc (.cells #[] 9)).alloc (.cells #[.slice (some ⟨g, 0, none⟩) n.names.length c3, .int .i64 0] 83)) fun e w2 => ∃ x A n' c, e = .returned (.agg #[.string x, .slice A n' c]) ∧ TAt w2 (fun k => w1.heap.size ≤ k) n.apart.toTr (.agg #[.string x, .slice A n' c]) ∧ Below w1.heap.size w1 w2) := fun w1 g c3 hb ho => HR.out w1 g c3 (HTA.out.move fun k hk _ => ⟨Nat.lt_of_lt_of_le hk hb.size, hb.block k hk⟩) ho
  clear hp hok hat hnl HR
  generalize n.apart.toTr = tr at *
  generalize n.names.length = m at *
  go_enter Tryd.func56, Tryd.ntmps56
  go_wp2_with (go_at_call 58; (with_reducible refine HF.out.mono ?_); rintro e w1 ⟨g, c3, rfl, ho, hb1⟩; have X1 : Hid (w1.heap[w.heap.size]? = some (.cells #[.string x, .slice A n' c'] 38 (0, 0))) := (hb1.block _ (by omega)).trans (old2 w _ _); have R1 : Hid (w1.heap[w.heap.size + 1]? = some (.cells #[.string (St []), .slice none 0 0] 38 (0, 0))) := (hb1.block _ (by omega)).trans (new2 w _ _); have e0 : w1.cell? ⟨w.heap.size, 0, none⟩ = some (.string x) := block_cell X1.out 0; have e1 : w1.cell? ⟨w.heap.size, 1, none⟩ = some (.slice A n' c') := block_cell X1.out 1; have HB1 : Hid (Below w.heap.size w w1) := Below.trans (up_alloc (up1 w _) _) (hb1.mono (by omega)); have HO := Lib.hid ho; have lw1 := lt_of_block R1.out; clear hb1 ho)
  go_loopw [5, 6] (fun v5 v6 wr => v5 = .slice (some ⟨g, 0, none⟩) m c3 ∧ v6 = .int .i64 0 ∧ wr = w1) (fun _ _ _ => 0)
  case atStart => exact ⟨rfl, rfl, rfl⟩
  case round =>
    obtain ⟨rfl, rfl, rfl⟩ := hrel
    go_wp2_with (go_at_call 86; (with_reducible refine (HR2.out _ _ _ HB1.out HO.out).mono ?_); rintro e w2 ⟨x2, A2, n2, c2, rfl, ht2, hb2⟩; have HT2 := Lib.hid ht2; have HB2 := Lib.hid (up_trans HB1.out hb2); have g0 := block_up hb2 R1.out; have c0 : w2.cell? ⟨w.heap.size + 1, 0, none⟩ = some (.string (St [])) := block_cell g0 0; have c1 : w2.cell? ⟨w.heap.size + 1, 1, none⟩ = some (.slice none 0 0) := block_cell g0 1; have f0 := block_free g0 0; have f1 := block_free g0 1; have l0 := lt_of_block g0; clear ht2 hb2 g0)
    refine bodyPost_ret (v := .agg #[.string x2, .slice A2 n2 c2]) (by simp [results, Tryd.results56, go_sem, c0, c1, l0]) rfl ?_
    refine ⟨⟨_, _, _, _, rfl, HT2.out.move fun k hk ho => ⟨?_, ?_⟩⟩, set0 (set0 HB2.out (Nat.le_succ _)) (Nat.le_succ _)⟩
    · have ho2 : wr.heap.size ≤ k := ho
      show w.heap.size ≤ k
      omega
    · have ho2 : wr.heap.size ≤ k := ho
      exact set2_block w2 _ _ (show k ≠ w.heap.size + 1 by omega)

end Go.Proofs.YtmghnibnokkjjaaDoor
