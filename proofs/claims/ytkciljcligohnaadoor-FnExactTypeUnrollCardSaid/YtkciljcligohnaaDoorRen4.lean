/- l1Rename whole; l1Apart of one type. -/
import Derived.Test.YtkciljcligohnaaDoorRen3
namespace Go.Proofs.YtkciljcligohnaaDoor
open Go.RowKit
set_option linter.unusedVariables false
set_option linter.unusedSimpArgs false

theorem rename_leaf (free : List (List UInt8)) (f2 : NT) (s : List UInt8) (hs : s ≠ []) (env : List (List UInt8 × List UInt8)) (hf : f2.toTr = .mk (sub s env) []) (v : Value) (w : World) (A : Option Addr) (c : Nat) (B : Option Addr) (d : Nat) (r : Nat) (F : Option Addr) (cF k : Nat) (okT : Nat → Prop)
    (hp : TAt w okT (.mk s []) v) (hA : SFar w A r (env.reverse.map (·.1))) (hB : SFar w B r (env.reverse.map (·.2))) (hNB : NB w r F cF free k) (hl : env.length ≤ 100000) :
    Calls Tryd.prog 100 #[v, .slice A env.length c, .slice B env.length d, .pointer (some ⟨r, 0, none⟩)] w (RPost w r F cF free (f2, k)) := by
  refine (l1Rename_atom s hs env v w A c B d _ ⟨okT, hp⟩ hA.cells hB.cells hl).mono ?_
  rintro e w' ⟨⟨A', c', he⟩, hb⟩
  exact ⟨St (sub s env), A', 0, c', he, by rw [hf]; exact ⟨A', c', rfl, Nat.zero_le _, .nil _⟩, block_up hb hNB, below_grow hb⟩

theorem not_fst {env : List (List UInt8 × List UInt8)} {s : List UInt8} (henv : ∀ p ∈ env, p.1 ≠ s) : s ∉ env.map (·.1) := fun hm => by
  obtain ⟨p, hp, rfl⟩ := List.mem_map.1 hm
  exact henv p hp rfl

theorem l1Rename_any (free : List (List UInt8)) (hfree : free.length ≤ 1000) : ∀ (n : NT), n.ok3 → LRn free n
  | .zero, _ => fun v w A c B d env r F cF k okT hp hok hA hB hNB hF henv h1 h2 =>
    rename_leaf free .zero [48] (by simp) env (by rw [sub_none (not_fst fun p hp => (henv p hp).1)]; rfl) v w A c B d r F cF k okT hp hA hB hNB (by omega)
  | .one, _ => fun v w A c B d env r F cF k okT hp hok hA hB hNB hF henv h1 h2 =>
    rename_leaf free .one [49] (by simp) env (by rw [sub_none (not_fst fun p hp => (henv p hp).2)]; rfl) v w A c B d r F cF k okT hp hA hB hNB (by omega)
  | .name s, h => fun v w A c B d env r F cF k okT hp hok hA hB hNB hF henv h1 h2 =>
    rename_leaf free (.name (sub s env)) s h.1 env rfl v w A c B d r F cF k okT hp hA hB hNB (by omega)
  | .sum a b, h => fun v w A c B d env r F cF k okT hp hok hA hB hNB hF henv h1 h2 => by
    simp only [NT.atoms, Nat.add_mul] at h1 h2
    have hle := ren_le free a env k
    exact l1Rename_two free [43] (by decide) a b (.sum (a.ren free env k).1 (b.ren free env (a.ren free env k).2).1) (a.ren free env k).2 (b.ren free env (a.ren free env k).2).2 _ _ rfl v w A c B d env.length r F cF okT hp hok (lt_of_block hNB)
      (fun w1 v hg hb ht => l1Rename_any free hfree a h.1 v w1 A c B d env r F cF k okT ht hok (hA.up hb) (hB.up hb) (block_up hb hNB) (hF.up hb) henv (by omega) (by omega))
      (fun w1 v hg hnb ht => l1Rename_any free hfree b h.2 v w1 A c B d env r F cF _ okT ht hok (hA.grown hg (.inl rfl)) (hB.grown hg (.inl rfl)) hnb (hF.grown hg (.inl rfl)) henv (by omega) (by omega))
  | .prod a b, h => fun v w A c B d env r F cF k okT hp hok hA hB hNB hF henv h1 h2 => by
    simp only [NT.atoms, Nat.add_mul] at h1 h2
    have hle := ren_le free a env k
    exact l1Rename_two free [42] (by decide) a b (.prod (a.ren free env k).1 (b.ren free env (a.ren free env k).2).1) (a.ren free env k).2 (b.ren free env (a.ren free env k).2).2 _ _ rfl v w A c B d env.length r F cF okT hp hok (lt_of_block hNB)
      (fun w1 v hg hb ht => l1Rename_any free hfree a h.1 v w1 A c B d env r F cF k okT ht hok (hA.up hb) (hB.up hb) (block_up hb hNB) (hF.up hb) henv (by omega) (by omega))
      (fun w1 v hg hnb ht => l1Rename_any free hfree b h.2 v w1 A c B d env r F cF _ okT ht hok (hA.grown hg (.inl rfl)) (hB.grown hg (.inl rfl)) hnb (hF.grown hg (.inl rfl)) henv (by omega) (by omega))
  | .loop s a, h => fun v w A c B d env r F cF k okT hp hok hA hB hNB hF henv h1 h2 => by
    simp only [NT.atoms, Nat.add_mul] at h1 h2
    have hle := fresh_le free free.length k
    have hfr : freshN free k ≤ k + free.length := hle.2
    exact l1Rename_rec free s a (.loop (tN (freshN free k)) (a.ren free ((s, tN (freshN free k)) :: env) (freshN free k + 1)).1) k (freshN free k) (a.ren free ((s, tN (freshN free k)) :: env) (freshN free k + 1)).2 _ rfl rfl v w A c B d env.length (env.reverse.map (·.1)) (env.reverse.map (·.2)) (by simp) (by simp) (by omega) r F cF okT hp hok hA hB hF (by omega) hNB (by omega)
      (fun w1 v A1 c1 B1 d1 hg hnb hA1 hB1 ht => l1Rename_any free hfree a h.2 v w1 A1 c1 B1 d1 ((s, tN (freshN free k)) :: env) r F cF (freshN free k + 1) okT ht hok (by simpa using hA1) (by simpa using hB1) hnb (hF.grown hg (.inl rfl))
        (by intro p hp; rcases List.mem_cons.1 hp with rfl | hp; exact ⟨h.1.1.2.1, h.1.1.2.2.1⟩; exact henv p hp) (by simp only [List.length_cons]; omega) (by omega))

/-- What l1Apart makes of a type. -/
def NT.apart (n : NT) : NT := (n.ren n.names [] 0).1

/-- Types that stand behind a row of trees. -/
def Oth (w : World) (b : Option Addr) (us : List NT) : Prop := us = [] ∨ ∃ g o, b = some ⟨g, o, none⟩ ∧ ∀ i u, us[i]? = some u → ∃ x A n c, w.cell? ⟨g, o + i * 2, none⟩ = some (.string x) ∧ w.cell? ⟨g, o + i * 2 + 1, none⟩ = some (.slice A n c) ∧ TAt w (fun _ => True) u.toTr (.agg #[.string x, .slice A n c])
theorem Oth.up {w w1 : World} {b : Option Addr} {us : List NT} (h : Oth w b us) (hb : Below w.heap.size w w1) : Oth w1 b us := by
  rcases h with h | ⟨g, o, rfl, h⟩
  · exact .inl h
  · refine .inr ⟨g, o, rfl, fun i u hu => ?_⟩
    obtain ⟨x, A, n, c, h1, h2, h3⟩ := h i u hu
    exact ⟨x, A, n, c, cell_up hb h1, cell_up hb h2, h3.up hb⟩
/-- The names that are free in some types. -/
def frees (us : List NT) : List (List UInt8) := us.flatMap NT.names
theorem frees_len : ∀ (us : List NT), (∀ u ∈ us, u.atoms ≤ 400) → (frees us).length ≤ 400 * us.length
  | [], _ => by simp [frees]
  | u :: us, h => by
    have h1 := frees_len us fun v hv => h v (by simp [hv])
    have h2 := names_len u
    have h3 := h u (by simp)
    simp only [frees, List.flatMap_cons, List.length_append, List.length_cons] at *
    omega
theorem frees_take {us : List NT} {j : Nat} {u : NT} (h : us[j]? = some u) : frees (us.take (j + 1)) = frees (us.take j) ++ u.names := by
  simp [frees, List.take_add_one, h]

set_option maxHeartbeats 8000000 in
set_option maxRecDepth 100000 in
theorem l1Apart_with (n : NT) (us : List NT) (hok : n.ok3) (hat : n.atoms ≤ 400) (hus : ∀ u ∈ us, u.ok3 ∧ u.atoms ≤ 400) (hul : us.length ≤ 10) (hfr : (frees us).length ≤ 500) (v : Value) (b : Option Addr) (w : World) (okT : Nat → Prop) (c : Nat) (hp : TAt w okT n.toTr v) (ho : Oth w b us) :
    Calls Tryd.prog 79 #[v, .slice b us.length c] w fun e w' => (∃ x A n' c, e = .returned (.agg #[.string x, .slice A n' c]) ∧ TAt w' (fun k => w.heap.size ≤ k) (n.ren (n.names ++ frees us) [] 0).1.toTr (.agg #[.string x, .slice A n' c])) ∧ Below w.heap.size w w' := by
  obtain ⟨i0, hi0, hz0, hz1, hz2⟩ := info_parts Tryd.infoStr
  obtain ⟨x, A, n', c', rfl⟩ := hp.form
  have hnl := names_len n
  have HF : Hid (Calls Tryd.prog 64 #[.agg #[.string x, .slice A n' c'], .slice (some ⟨w.heap.size + 2, 0, none⟩) 0 0, .slice (some ⟨w.heap.size + 3, 0, none⟩) 0 0] ((((w.alloc (.cells #[.string x, .slice A n' c'] 43)).alloc (.cells #[.string (St []), .slice none 0 0] 43)).alloc (.cells #[] 9)).alloc (.cells #[] 9)) fun e w2 => ∃ g c3, e = .returned (.slice (some ⟨g, 0, none⟩) n.names.length c3) ∧ SOwn w2 (w.heap.size + 2) n.names g c3 ∧ Below (w.heap.size + 2) ((w.alloc (.cells #[.string x, .slice A n' c'] 43)).alloc (.cells #[.string (St []), .slice none 0 0] 43)) w2) := by
    have e1 : (w.alloc (.cells #[.string x, .slice A n' c'] 43)).heap.size + 2 = w.heap.size + 3 := by simp
    have ho := own_new2 (w.alloc (.cells #[.string x, .slice A n' c'] 43)) (.cells #[.string (St []), .slice none 0 0] 43) (w.heap.size + 2) (by simp)
    rw [e1] at ho
    have ht := ((((hp.up (up1 w (.cells #[.string x, .slice A n' c'] 43))).up (up1 _ (.cells #[.string (St []), .slice none 0 0] 43))).up (up1 _ (.cells #[] 9))).up (up1 _ (.cells #[] 9))).weak (ok' := fun _ => True) (fun _ _ => trivial)
    refine (l1Free_any3 n hok _ _ (some ⟨w.heap.size + 2, 0, none⟩) 0 [] (w.heap.size + 2) (w.heap.size + 3) 0 [] ht (.inl rfl) ho (by simp) (by simp; omega) (by simp; omega)).mono ?_
    rintro e w2 ⟨g, c3, he, ho2, hg, _⟩
    refine ⟨g, c3, he, ho2, ?_⟩
    have hb0 : Below (w.heap.size + 2) ((w.alloc (.cells #[.string x, .slice A n' c'] 43)).alloc (.cells #[.string (St []), .slice none 0 0] 43)) ((((w.alloc (.cells #[.string x, .slice A n' c'] 43)).alloc (.cells #[.string (St []), .slice none 0 0] 43)).alloc (.cells #[] 9)).alloc (.cells #[] 9)) := ((Below.refl _ _).alloc (by simp) _).alloc (by simp) _
    have := hb0.grown hg (by simp) (fun k hk => by cases hk; omega)
    exact this
  have HFO : Hid (∀ j u, us[j]? = some u → ∀ w1 : World, Below w.heap.size w w1 → ∃ g o x A n c, b = some ⟨g, o, none⟩ ∧ w1.cell? ⟨g, o + j * 2, none⟩ = some (.string x) ∧ w1.cell? ⟨g, o + j * 2 + 1, none⟩ = some (.slice A n c) ∧ Hid (Calls Tryd.prog 64 #[.agg #[.string x, .slice A n c], .slice (some ⟨w1.heap.size, 0, none⟩) 0 0, .slice (some ⟨w1.heap.size + 1, 0, none⟩) 0 0] ((w1.alloc (.cells #[] 9)).alloc (.cells #[] 9)) fun e w2 => ∃ g c3, e = .returned (.slice (some ⟨g, 0, none⟩) u.names.length c3) ∧ SOwn w2 w1.heap.size u.names g c3 ∧ Below w1.heap.size w1 w2)) := fun j u hu w1 hb => by
    rcases ho with rfl | ⟨g, o, rfl, hcells⟩
    · simp at hu
    obtain ⟨x, A, n, c, h1, h2, h3⟩ := hcells j u hu
    have hm := List.mem_of_getElem? hu
    refine ⟨g, o, x, A, n, c, rfl, cell_up hb h1, cell_up hb h2, ?_⟩
    have hown : SOwn ((w1.alloc (.cells #[] 9)).alloc (.cells #[] 9)) w1.heap.size [] (w1.heap.size + 1) 0 := own_nilH (w1.alloc (.cells #[] 9)) w1.heap.size (by simp) 9 (w1.heap.size + 1) (by simp)
    have hat2 := (hus u hm).2
    refine (l1Free_any3 u (hus u hm).1 _ _ (some ⟨w1.heap.size, 0, none⟩) 0 [] w1.heap.size (w1.heap.size + 1) 0 [] (((h3.up hb).up (up1 w1 _)).up (up1 _ _)) (.inl rfl) hown (by simp; omega) (by simp; omega) (by simp; omega)).mono ?_
    rintro e w2 ⟨g, c3, he, ho2, hg, _⟩
    refine ⟨g, c3, he, ho2, ?_⟩
    have hb0 : Below w1.heap.size w1 ((w1.alloc (.cells #[] 9)).alloc (.cells #[] 9)) := up_alloc (up1 w1 _) _
    exact hb0.grown hg (by simp; omega) (fun k hk => by cases hk; omega)
  have HR : Hid (∀ (w1 : World) (fs : List (List UInt8)) g c3, fs = n.names ++ frees us → TAt w1 (fun k => k < w1.heap.size) n.toTr (.agg #[.string x, .slice A n' c']) → SOwn w1 (w.heap.size + 2) fs g c3 → Calls Tryd.prog 100 #[.agg #[.string x, .slice A n' c'], .slice (some ⟨w1.heap.size, 0, none⟩) 0 0, .slice (some ⟨w1.heap.size + 1, 0, none⟩) 0 0, .pointer (some ⟨w1.heap.size + 2, 0, none⟩)] (((w1.alloc (.cells #[] 9)).alloc (.cells #[] 9)).alloc (.cells #[.slice (some ⟨g, 0, none⟩) fs.length c3, .int .i64 0] 97)) fun e w2 => ∃ x A n' c, e = .returned (.agg #[.string x, .slice A n' c]) ∧ TAt w2 (fun k => w1.heap.size ≤ k) (n.ren (n.names ++ frees us) [] 0).1.toTr (.agg #[.string x, .slice A n' c]) ∧ Below w1.heap.size w1 w2) := fun w1 fs g c3 hfs ht ho => by
    have hfl : fs.length ≤ 900 := by rw [hfs, List.length_append]; omega
    rw [← hfs]
    have e3 : ((w1.alloc (.cells #[] 9)).alloc (.cells #[] 9)).heap.size = w1.heap.size + 2 := by simp
    have hnb : NB (((w1.alloc (.cells #[] 9)).alloc (.cells #[] 9)).alloc (.cells #[.slice (some ⟨g, 0, none⟩) fs.length c3, .int .i64 0] 97)) (w1.heap.size + 2) (some ⟨g, 0, none⟩) c3 fs 0 := by
      have := block_new ((w1.alloc (.cells #[] 9)).alloc (.cells #[] 9)) (.cells #[.slice (some ⟨g, 0, none⟩) fs.length c3, .int .i64 0] 97)
      rw [e3] at this
      exact this
    have hb3 : Below w1.heap.size w1 (((w1.alloc (.cells #[] 9)).alloc (.cells #[] 9)).alloc (.cells #[.slice (some ⟨g, 0, none⟩) fs.length c3, .int .i64 0] 97)) := up_alloc (up_alloc (up1 w1 _) _) _
    have hsf : SFar (((w1.alloc (.cells #[] 9)).alloc (.cells #[] 9)).alloc (.cells #[.slice (some ⟨g, 0, none⟩) fs.length c3, .int .i64 0] 97)) (some ⟨g, 0, none⟩) (w1.heap.size + 2) fs := by
      have hl := ho.lt
      rcases (ho.up hb3).reads with h0 | ⟨g', o', he', hcell⟩
      · exact .inl h0
      · cases he'
        exact .inr ⟨g, 0, rfl, by omega, by have := hb3.size; omega, hcell⟩
    have ht' : TAt (((w1.alloc (.cells #[] 9)).alloc (.cells #[] 9)).alloc (.cells #[.slice (some ⟨g, 0, none⟩) fs.length c3, .int .i64 0] 97)) (fun k => k < w1.heap.size) n.toTr (.agg #[.string x, .slice A n' c']) := ht.up hb3
    refine (l1Rename_any fs (by omega) n hok _ _ (some ⟨w1.heap.size, 0, none⟩) 0 (some ⟨w1.heap.size + 1, 0, none⟩) 0 [] (w1.heap.size + 2) (some ⟨g, 0, none⟩) c3 0 (fun k => k < w1.heap.size) ht' (fun j hj => by omega) (.inl rfl) (.inl rfl) hnb hsf (by simp) (by simp; omega) (by
      have h1 : n.atoms * (fs.length + 1) ≤ 400 * 901 := Nat.mul_le_mul hat (by omega)
      omega)).mono ?_
    rintro e w2 ⟨x2, A2, n2, c2, he, ht2, _, hg⟩
    refine ⟨x2, A2, n2, c2, he, ht2.move fun k hk ho => ⟨?_, rfl⟩, hb3.grown hg hb3.size (fun k hk => by cases hk; omega)⟩
    have : w1.heap.size + 3 ≤ k := by simpa using ho
    omega
  have HTA : Hid (TAt w (fun k => k < w.heap.size) n.toTr (.agg #[.string x, .slice A n' c'])) := hp.move fun k hk _ => ⟨hk, rfl⟩
  have HR2 : Hid (∀ (w1 : World) (fs : List (List UInt8)) g c3, Hid (fs = n.names ++ frees us) → Below w.heap.size w w1 → SOwn w1 (w.heap.size + 2) fs g c3 → Calls Tryd.prog 100 #[.agg #[.string x, .slice A n' c'], .slice (some ⟨w1.heap.size, 0, none⟩) 0 0, .slice (some ⟨w1.heap.size + 1, 0, none⟩) 0 0, .pointer (some ⟨w1.heap.size + 1 + 1, 0, none⟩)] (((w1.alloc (.cells #[] 9)).alloc (.cells #[] 9)).alloc (.cells #[.slice (some ⟨g, 0, none⟩) fs.length c3, .int .i64 0] 97)) fun e w2 => ∃ x A n' c, e = .returned (.agg #[.string x, .slice A n' c]) ∧ TAt w2 (fun k => w1.heap.size ≤ k) (n.ren (n.names ++ frees us) [] 0).1.toTr (.agg #[.string x, .slice A n' c]) ∧ Below w1.heap.size w1 w2) := fun w1 fs g c3 hfs hb ho => HR.out w1 fs g c3 hfs.out (HTA.out.move fun k hk _ => ⟨Nat.lt_of_lt_of_le hk hb.size, hb.block k hk⟩) ho
  have HNXT : Hid (∀ j u, us[j]? = some u → (n.names ++ frees (us.take j)) ++ u.names = n.names ++ frees (us.take (j + 1)) ∧ (n.names ++ frees (us.take j)).length ≤ 100000 ∧ u.names.length ≤ 400) := fun j u hu => by
    refine ⟨by rw [frees_take hu, List.append_assoc], ?_, ?_⟩
    · have h1 := frees_len (us.take j) fun v hv => (hus v (List.mem_of_mem_take hv)).2
      rw [List.length_append]
      have h2 : (us.take j).length ≤ us.length := by rw [List.length_take]; omega
      omega
    · have := names_len u
      have := (hus u (List.mem_of_getElem? hu)).2
      omega
  have HALL : Hid (frees (us.take us.length) = frees us) := congrArg frees List.take_length
  clear hp hok hat hnl HR hus hfr ho
  generalize (n.ren (n.names ++ frees us) [] 0).1.toTr = tr at *
  obtain ⟨k, hk⟩ : ∃ k, k = us.length := ⟨_, rfl⟩
  rw [← hk] at hul ⊢
  have HK := Lib.hid hk
  clear hk
  obtain ⟨nm0, hnm0⟩ : ∃ nm0, nm0 = n.names := ⟨_, rfl⟩
  rw [← hnm0] at HF HNXT HR2
  clear hnm0
  go_enter Tryd.func79, Tryd.ntmps79
  go_wp2_with (go_at_call 64; (with_reducible refine HF.out.mono ?_); rintro e w1 ⟨g, c3, rfl, ho, hb1⟩; have X1 : Hid (w1.heap[w.heap.size]? = some (.cells #[.string x, .slice A n' c'] 43 (0, 0))) := (hb1.block _ (by omega)).trans (old2 w _ _); have R1 : Hid (w1.heap[w.heap.size + 1]? = some (.cells #[.string (St []), .slice none 0 0] 43 (0, 0))) := (hb1.block _ (by omega)).trans (new2 w _ _); have HB1 : Hid (Below w.heap.size w w1) := Below.trans (up_alloc (up1 w _) _) (hb1.mono (by omega)); have HO := Lib.hid ho; clear hb1 ho)
  go_loopg [5, 6] k (fun m v5 v6 wr => ∃ (j : Nat) (ls : List (List UInt8)) (g c3 : Nat), v5 = .slice (some ⟨g, 0, none⟩) ls.length c3 ∧ v6 = .int .i64 j ∧ Hid (m + j = k ∧ ls = nm0 ++ frees (us.take j)) ∧ Hid (SOwn wr (w.heap.size + 2) ls g c3) ∧ Hid (Below w.heap.size w wr) ∧ Hid (wr.heap[w.heap.size]? = some (.cells #[.string x, .slice A n' c'] 43 (0, 0))) ∧ Hid (wr.heap[w.heap.size + 1]? = some (.cells #[.string (St []), .slice none 0 0] 43 (0, 0))))
  case atStart => exact ⟨0, nm0, g, c3, rfl, rfl, ⟨rfl, by simp [frees]⟩, HO, HB1, X1, R1⟩
  case round =>
    clear HB1 X1 R1 HO
    obtain ⟨j, ls, g, c3, rfl, rfl, HJ, HO, HB1, X1, R1⟩ := hrel
    obtain ⟨hjk, hls⟩ := HJ.out
    have e0 : wr.cell? ⟨w.heap.size, 0, none⟩ = some (.string x) := block_cell X1.out 0
    have e1 : wr.cell? ⟨w.heap.size, 1, none⟩ = some (.slice A n' c') := block_cell X1.out 1
    have lw1 := lt_of_block R1.out
    cases gk with
    | zero =>
      have h1 : decide (j < k) = false := decide_eq_false (by omega)
      have HLS : Hid (ls = nm0 ++ frees us) := by
        show _ = _
        rw [hls]
        have hj0 : j = us.length := by have := HK.out; omega
        rw [hj0, HALL.out]
      clear hls HJ hjk HNXT
      go_wp2_with (go_at_call 100; (with_reducible refine (HR2.out _ _ _ _ HLS HB1.out HO.out).mono ?_); rintro e w2 ⟨x2, A2, n2, c2, rfl, ht2, hb2⟩; have HT2 := Lib.hid ht2; have HB2 := Lib.hid (up_trans HB1.out hb2); have g0 := block_up hb2 R1.out; have c0 : w2.cell? ⟨w.heap.size + 1, 0, none⟩ = some (.string (St [])) := block_cell g0 0; have c1 : w2.cell? ⟨w.heap.size + 1, 1, none⟩ = some (.slice none 0 0) := block_cell g0 1; have f0 := block_free g0 0; have f1 := block_free g0 1; have l0 := lt_of_block g0; clear ht2 hb2 g0)
      refine bodyPost_ret (v := .agg #[.string x2, .slice A2 n2 c2]) (by simp [results, Tryd.results79, go_sem, c0, c1, l0]) rfl ?_
      refine ⟨⟨_, _, _, _, rfl, HT2.out.move fun k hk ho => ⟨?_, ?_⟩⟩, set0 (set0 HB2.out (Nat.le_succ _)) (Nat.le_succ _)⟩
      · have ho2 : wr.heap.size ≤ k := ho
        show w.heap.size ≤ k
        omega
      · have ho2 : wr.heap.size ≤ k := ho
        exact set2_block w2 _ _ (show k ≠ w.heap.size + 1 by omega)
    | succ m =>
      have h1 : decide (j < k) = true := decide_eq_true (by omega)
      have hjk2 : j < k := by omega
      obtain ⟨u, hu⟩ : ∃ u, us[j]? = some u := ⟨_, List.getElem?_eq_getElem (by have := HK.out; omega)⟩
      obtain ⟨bg, bo, xu, Au, nu, cu, rfl, d0, d1, HFU⟩ := HFO.out j u hu wr HB1.out
      obtain ⟨q1, q2, q3⟩ := HNXT.out j u hu
      have HJ2 : Hid (m + (j + 1) = k ∧ ls ++ u.names = nm0 ++ frees (us.take (j + 1))) := ⟨by omega, by rw [hls]; exact q1⟩
      have HLB : Hid (ls.length + u.names.length ≤ 1000000) := by
        show _ ≤ _
        rw [hls]
        omega
      have HRW : Hid (∀ w2 g2 c4, SOwn w2 wr.heap.size u.names g2 c4 → RCells w2 (some ⟨g2, 0, none⟩) (strs u.names)) := fun w2 g2 c4 h => h.reads.row
      have HONE : Hid (∀ v ∈ strs u.names, v.oneCell' = true) := strs_one _ []
      have HLEN : Hid ((strs u.names).length = u.names.length) := by show _ = _; simp [strs]
      clear hls HJ hjk HNXT hu q1 q2 q3 HFO HR2 HALL
      generalize u.names = un at *
      go_wp2_with (first
        | (go_at_call 64; (with_reducible refine HFU.out.mono ?_); rintro e w2 ⟨g2, c4, rfl, ho2, hb2⟩; have HO2 := Lib.hid ho2; have HO' := Lib.hid (HO.out.up hb2); have HB2 := Lib.hid (up_trans HB1.out hb2); have X2 := Lib.hid (block_up hb2 X1.out); have R2 := Lib.hid (block_up hb2 R1.out); clear ho2 hb2)
        | (at_builtin; refine wpList_append_row _ rfl _ _ 33 rfl (w.heap.size + 2) 9 i0 (.string ⟨#[]⟩) 16 Tryd.underlying33 hi0 hz0 hz1 hz2 rfl g ls.length c3 (strs ls) rfl HO'.out (some ⟨g2, 0, none⟩) un.length c4 (strs un) rfl HLEN.out (HRW.out _ _ _ HO2.out) HONE.out (by have := HLB.out; omega) (by decide) (by have := lt_of_block R2.out; omega) (ls ++ un).length (by simp) (strs ls ++ strs un) rfl ?_; intro g3 c5 w3 hown hgrow hbel hat; have HO3 : Hid (SOwn w3 (w.heap.size + 2) (ls ++ un) g3 c5) := SOwn.of hown rfl rfl; have HB3 : Hid (Below w.heap.size w w3) := Below.trans HB2.out (hbel.mono (by omega)); have X3 : Hid (w3.heap[w.heap.size]? = some (.cells #[.string x, .slice A n' c'] 43 (0, 0))) := (hbel.block _ (by omega)).trans X2.out; have R3 : Hid (w3.heap[w.heap.size + 1]? = some (.cells #[.string (St []), .slice none 0 0] 43 (0, 0))) := (hbel.block _ (by omega)).trans R2.out; clear hown hgrow hbel hat))
      go_roundg m
      case measure => omega
      case rel => exact ⟨j + 1, ls ++ un, g3, c5, by simp, rfl, HJ2, HO3, HB3, X3, R3⟩

theorem l1Apart_any (n : NT) (hok : n.ok) (hat : n.atoms ≤ 400) (v : Value) (w : World) (okT : Nat → Prop) (c : Nat) (hp : TAt w okT n.toTr v) :
    Calls Tryd.prog 79 #[v, .slice none 0 c] w fun e w' => (∃ x A n' c, e = .returned (.agg #[.string x, .slice A n' c]) ∧ TAt w' (fun k => w.heap.size ≤ k) n.apart.toTr (.agg #[.string x, .slice A n' c])) ∧ Below w.heap.size w w' := by
  have := l1Apart_with n [] (ok_ok3 hok) hat (by simp) (by simp) (by simp [frees]) v none w okT c hp (.inl rfl)
  simp only [frees, List.flatMap_nil, List.append_nil] at this
  exact this

end Go.Proofs.YtkciljcligohnaaDoor
