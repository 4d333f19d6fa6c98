/- The reference's l1Put. l1Put whole. The canonical text, in plain Lean: of a type with names it is that of its nameless form. The reference's l1Sub. The reference's l1Uses and DerivPlaces. The reference's l1Text. The reference's l1Fits, l1Canon. -/
import Derived.Test.YtpokompplapkhaaGreatDoorMG
import Derived.Test.YtpokompplapkhaaGreatDoorMF
import Derived.Test.YtpokompplapkhaaGreatDoorMD
import Derived.Deep.RegionHeld3
namespace Go.Proofs.YtpokompplapkhaaGreatDoor
open Go.RowKit
set_option linter.unusedVariables false
set_option linter.unusedSimpArgs false
theorem new3 (w : World) (o1 o2 o3 : Obj) : (((w.alloc o1).alloc o2).alloc o3).heap[w.heap.size + 2]? = some o3 := by
  have := block_new ((w.alloc o1).alloc o2) o3
  rw [show ((w.alloc o1).alloc o2).heap.size = w.heap.size + 2 by simp] at this
  exact this
/-- What l1Put does. -/
def PPost (w : World) (ok : Nat → Prop) (n : NT) (e : Ending) (w' : World) : Prop :=
  (∃ x A m c, e = .returned (.agg #[.string x, .slice A m c]) ∧ TAt w' (fun k => ok k ∨ w.heap.size ≤ k) n.toTr (.agg #[.string x, .slice A m c])) ∧ Below w.heap.size w w'
end Go.Proofs.YtpokompplapkhaaGreatDoor
namespace Go.Proofs.YtpokompplapkhaaGreatDoor
open Go.RowKit
set_option linter.unusedVariables false
set_option linter.unusedSimpArgs false
end Go.Proofs.YtpokompplapkhaaGreatDoor
namespace Go.Proofs.YtpokompplapkhaaGreatDoor
open Go.RowKit
set_option linter.unusedVariables false
set_option linter.unusedSimpArgs false
/-- What canon's write gives, and the next number; the names around, the innermost first. -/
def Ty.cw (free : List (List UInt8)) : Ty → List (List UInt8) → Nat → List UInt8 × Nat
  | .zero, _, k => ([48], k)
  | .one, _, k => ([49], k)
  | .name s, _, k => (s, k)
  | .bound i, ar, k => ((ar[i]?).getD [], k)
  | .sum a b, ar, k => ([40, 43, 32] ++ (a.cw free ar k).1 ++ [32] ++ (b.cw free ar (a.cw free ar k).2).1 ++ [41], (b.cw free ar (a.cw free ar k).2).2)
  | .prod a b, ar, k => ([40, 42, 32] ++ (a.cw free ar k).1 ++ [32] ++ (b.cw free ar (a.cw free ar k).2).1 ++ [41], (b.cw free ar (a.cw free ar k).2).2)
  | .loop a, ar, k => ([40, 114, 101, 99, 32] ++ tN (freshN free k) ++ [32] ++ (a.cw free (tN (freshN free k) :: ar) (freshN free k + 1)).1 ++ [41], (a.cw free (tN (freshN free k) :: ar) (freshN free k + 1)).2)
/-- The free names of a nameless form. -/
def Ty.fnames (t : Ty) : List (List UInt8) := t.pre.foldl nstep []
def Ty.canonL (t : Ty) : List UInt8 := (t.cw t.fnames [] 0).1
/-- What told gives. -/
def Ty.told (t : Ty) : Option (List UInt8) := if 400 < t.atoms then none else if rdTy t.canonL = none then none else some t.canonL
theorem txt_leaf {s : List UInt8} (h : s ≠ []) (ps : List Tr) : (Tr.mk s ps).txt = s := by rw [Tr.txt, if_neg h]
theorem txt_three (h : List UInt8) (hh : h ≠ []) (a b : Tr) : (Tr.mk [] [.mk h [], a, b]).txt = [40] ++ h ++ [32] ++ a.txt ++ [32] ++ b.txt ++ [41] := by
  simp [Tr.txt, Tr.txts, hh]
theorem sub_at {s : List UInt8} : ∀ {env : List (List UInt8 × List UInt8)} {i : Nat}, look s (env.map (·.1)) = some i → (env.map (·.2))[i]? = some (sub s env)
  | [], i, h => by simp [look] at h
  | (a, b) :: r, i, h => by
    simp only [List.map_cons, look] at h
    rw [sub]
    by_cases ha : a = s
    · rw [if_pos ha] at h ⊢
      simp at h
      subst h
      simp
    · rw [if_neg ha] at h ⊢
      cases hl : look s (r.map (·.1)) with
      | none => rw [hl] at h; simp at h
      | some j =>
        rw [hl] at h
        simp at h
        subst h
        simpa using sub_at hl
theorem ren_cw (free : List (List UInt8)) : ∀ (n : NT) (env : List (List UInt8 × List UInt8)) (k : Nat), n.ok3 → (∀ p ∈ env, paramB p.1 = false ∧ p.2 ≠ []) →
    (n.db (env.map (·.1))).cw free (env.map (·.2)) k = ((n.ren free env k).1.toTr.txt, (n.ren free env k).2)
  | .zero, _, _, _, _ => rfl
  | .one, _, _, _, _ => rfl
  | .name s, env, k, hok, he => by
    simp only [NT.ren, NT.db, NT.toTr]
    by_cases hp : paramB s = true
    · have hn : s ∉ env.map (·.1) := fun hm => by
        obtain ⟨p, hpm, rfl⟩ := List.mem_map.1 hm
        rw [(he p hpm).1] at hp
        cases hp
      rw [sub_none hn, if_pos hp, txt_leaf hok.1]
      rfl
    · rw [if_neg hp]
      cases hl : look s (env.map (·.1)) with
      | none => rw [sub_none (look_none.1 hl), txt_leaf hok.1]; rfl
      | some i =>
        obtain ⟨p, hpm, hpe⟩ := List.mem_map.1 (sub_mem hl)
        rw [txt_leaf (by rw [← hpe]; exact (he p hpm).2)]
        simp only [Ty.cw, sub_at hl, Option.getD_some]
  | .sum a b, env, k, hok, he => by
    simp only [NT.ren, NT.db, NT.toTr, Ty.cw, ren_cw free a env k hok.1 he, ren_cw free b env _ hok.2 he]
    rw [txt_three [43] (by simp)]
    rfl
  | .prod a b, env, k, hok, he => by
    simp only [NT.ren, NT.db, NT.toTr, Ty.cw, ren_cw free a env k hok.1 he, ren_cw free b env _ hok.2 he]
    rw [txt_three [42] (by simp)]
    rfl
  | .loop s a, env, k, hok, he => by
    have := ren_cw free a ((s, tN (freshN free k)) :: env) (freshN free k + 1) hok.2 (by
      intro p hp
      rcases List.mem_cons.1 hp with rfl | hp
      · exact ⟨hok.1.2, (tN_ne _).1⟩
      · exact he p hp)
    simp only [List.map_cons] at this
    simp only [NT.ren, NT.db, NT.toTr, Ty.cw, this]
    rw [txt_three [114, 101, 99] (by simp), txt_leaf (tN_ne _).1]
    simp
theorem apart_txt (n : NT) (hok : n.ok3) : n.apart.toTr.txt = (n.db []).canonL := by
  have h1 := ren_cw n.names n [] 0 hok (by simp)
  have h2 : (n.db []).fnames = n.names := by
    exact names_fr3 n [] [] hok (by simp)
  simp only [List.map_nil] at h1
  rw [Ty.canonL, h2, h1]
  rfl
theorem fnames_db (n : NT) (hok : n.ok3) : (n.db []).fnames = n.names := by
  exact names_fr3 n [] [] hok (by simp)
/-! ### renaming keeps names good -/
theorem decL_digit : ∀ (n : Nat), ∀ b ∈ decL n, digitB b = true := by
  intro n
  induction n using Nat.strongRecOn with
  | ind n ih =>
    have hd : ∀ m, m < 10 → digitB (UInt8.ofNat (48 + m)) = true := by
      intro m hm
      have : m = 0 ∨ m = 1 ∨ m = 2 ∨ m = 3 ∨ m = 4 ∨ m = 5 ∨ m = 6 ∨ m = 7 ∨ m = 8 ∨ m = 9 := by omega
      rcases this with rfl | rfl | rfl | rfl | rfl | rfl | rfl | rfl | rfl | rfl <;> decide
    rw [decL]
    split
    · intro b hb
      simp only [List.mem_singleton] at hb
      subst hb
      exact hd n (by assumption)
    · intro b hb
      rcases List.mem_append.1 hb with hb | hb
      · exact ih (n / 10) (by omega) b hb
      · simp only [List.mem_singleton] at hb
        subst hb
        exact hd _ (by omega)
theorem tN_ok (j : Nat) (h : j < 100000000) : nmOk (tN j) := by
  have hl := decL_len 8 j (by omega)
  refine ⟨(tN_ne j).1, (tN_ne j).2.1, (tN_ne j).2.2, fun b hb => ?_, by simp only [tN, List.length_cons]; omega⟩
  simp only [tN] at hb
  rcases List.mem_cons.1 hb with rfl | hb
  · decide
  · exact digit_atom (decL_digit j b hb)
theorem sub_ok3 {s : List UInt8} (hs : nmOk s) : ∀ {env : List (List UInt8 × List UInt8)}, (∀ p ∈ env, nmOk p.2) → nmOk (sub s env)
  | [], _ => hs
  | (a, b) :: r, h => by
    rw [sub]
    split
    · exact h (a, b) (by simp)
    · exact sub_ok3 hs fun p hp => h p (by simp [hp])
theorem ren_ok3 (free : List (List UInt8)) : ∀ (n : NT) (env) (k : Nat), n.ok3 → (∀ p ∈ env, nmOk p.2) → k + n.atoms * (free.length + 1) < 100000000 → (n.ren free env k).1.ok3
  | .zero, _, _, _, _, _ => trivial
  | .one, _, _, _, _, _ => trivial
  | .name s, env, k, h, he, hk => sub_ok3 h he
  | .sum a b, env, k, h, he, hk => by
    simp only [NT.atoms, Nat.add_mul] at hk
    have hle := ren_le free a env k
    exact ⟨ren_ok3 free a _ _ h.1 he (by omega), ren_ok3 free b _ _ h.2 he (by omega)⟩
  | .prod a b, env, k, h, he, hk => by
    simp only [NT.atoms, Nat.add_mul] at hk
    have hle := ren_le free a env k
    exact ⟨ren_ok3 free a _ _ h.1 he (by omega), ren_ok3 free b _ _ h.2 he (by omega)⟩
  | .loop s a, env, k, h, he, hk => by
    simp only [NT.atoms, Nat.add_mul] at hk
    have hle := fresh_le free free.length k
    have hfr : freshN free k ≤ k + free.length := hle.2
    have hn := tN_ok (freshN free k) (by omega)
    refine ⟨⟨hn, tN_param _⟩, ren_ok3 free a _ _ h.2 (fun p hp => ?_) (by omega)⟩
    rcases List.mem_cons.1 hp with rfl | hp
    · exact hn
    · exact he p hp
/-- A type with good names has a text. -/
theorem ok3_wf : ∀ {n : NT}, n.ok3 → n.toTr.wf
  | .zero, _ => .inl ⟨by simp, by decide, rfl⟩
  | .one, _ => .inl ⟨by simp, by decide, rfl⟩
  | .name s, h => .inl ⟨h.1, h.2.2.2.1, rfl⟩
  | .sum a b, h => .inr ⟨rfl, by simp, .inl ⟨by simp, by decide, rfl⟩, ok3_wf h.1, ok3_wf h.2, trivial⟩
  | .prod a b, h => .inr ⟨rfl, by simp, .inl ⟨by simp, by decide, rfl⟩, ok3_wf h.1, ok3_wf h.2, trivial⟩
  | .loop s a, h => .inr ⟨rfl, by simp, .inl ⟨by simp, by decide, rfl⟩, .inl ⟨h.1.1.1, h.1.1.2.2.2.1, rfl⟩, ok3_wf h.2, trivial⟩
/-! ### a type put for a name -/
/-- A type, in which no name is bound from around, put for a free name. -/
def Ty.put : Ty → List UInt8 → Ty → Ty
  | .name s, nm, u => if s = nm then u else .name s
  | .sum a b, nm, u => .sum (a.put nm u) (b.put nm u)
  | .prod a b, nm, u => .prod (a.put nm u) (b.put nm u)
  | .loop a, nm, u => .loop (a.put nm u)
  | t, _, _ => t
/-- What is in a rec, so many ones further inside, with a type put for its name. -/
def Ty.opened : Ty → Ty → Nat → Ty
  | .bound k, u, up => if k = up then u else .bound k
  | .sum a b, u, up => .sum (a.opened u up) (b.opened u up)
  | .prod a b, u, up => .prod (a.opened u up) (b.opened u up)
  | .loop a, u, up => .loop (a.opened u (up + 1))
  | t, _, _ => t
theorem cov_own (n : NT) (F : List (List UInt8)) (h : ∀ s ∈ n.names, s ∈ F) : n.cov F [] := fr_cov F n [] [] [] (fun s h => h) h
/-! ### how often a name stands -/
/-- What l1Canon gives. -/
def canonN (n : NT) : Option (List UInt8) := if 400 < n.atoms then none else if rdTy n.apart.toTr.txt = none then none else some n.apart.toTr.txt
theorem canonN_told (n : NT) (hn : n.ok3) : canonN n = (n.db []).told := by rw [canonN, Ty.told, apart_txt n hn, NT.db_atoms]
end Go.Proofs.YtpokompplapkhaaGreatDoor
namespace Go.Proofs.YtpokompplapkhaaGreatDoor
open Go.RowKit
set_option linter.unusedVariables false
set_option linter.unusedSimpArgs false
theorem PPost.less {w w1 : World} {ok ok' : Nat → Prop} {n : NT} {e : Ending} {w' : World} (hb : Below w.heap.size w w1) (h : ∀ k, ok k → ok' k ∨ w.heap.size ≤ k) (hp : PPost w1 ok n e w') : PPost w ok' n e w' := by
  obtain ⟨⟨x, A, m, c, he, ht⟩, hb2⟩ := hp
  refine ⟨⟨x, A, m, c, he, ht.weak fun k hk => ?_⟩, up_trans hb hb2⟩
  have := hb.size
  rcases hk with hk | hk
  · exact h k hk
  · exact .inr (by omega)
end Go.Proofs.YtpokompplapkhaaGreatDoor
namespace Go.Proofs.YtpokompplapkhaaGreatDoor
open Go.RowKit
set_option linter.unusedVariables false
set_option linter.unusedSimpArgs false
/-- What the three parts of a list give: the cells, and the trees, in whatever world follows. -/
theorem three_cells {w : World} {h : List UInt8} {q : List Tr} {a b : Tr} {v : Value} (hp : TAt w (fun _ => True) (.mk [] [.mk h q, a, b]) v) :
    ∃ bl o c, v = .agg #[.string (St []), .slice (some ⟨bl, o, none⟩) 3 c] ∧ ∃ A2 n2 c2 A4 n4 c4, Hid (∀ w1, Below w.heap.size w w1 → w1.cell? ⟨bl, o + 2, none⟩ = some (.string (St a.atom)) ∧ w1.cell? ⟨bl, o + 3, none⟩ = some (.slice A2 n2 c2) ∧ w1.cell? ⟨bl, o + 4, none⟩ = some (.string (St b.atom)) ∧ w1.cell? ⟨bl, o + 5, none⟩ = some (.slice A4 n4 c4) ∧
      Hid (TAt w1 (fun _ => True) a (.agg #[.string (St a.atom), .slice A2 n2 c2])) ∧ Hid (TAt w1 (fun _ => True) b (.agg #[.string (St b.atom), .slice A4 n4 c4]))) ∧
      Hid (∀ w1, Below w.heap.size w w1 → Calls Tryz.prog 125 #[.agg #[.string (St []), .slice (some ⟨bl, o, none⟩) 3 c]] w1 fun e w' => e = .returned (.string (St h)) ∧ Below w1.heap.size w1 w') := by
  have hh : ∀ w1, Below w.heap.size w w1 → Calls Tryz.prog 125 #[v] w1 fun e w' => e = .returned (.string (St h)) ∧ Below w1.heap.size w1 w' := fun w1 (hb : Below w.heap.size w w1) => l1Head_any _ v w1 (hp.up hb)
  obtain ⟨A, c, rfl, hr⟩ := hp.parts
  obtain ⟨bl, o, A', c', rfl, _, _, _, _, hr⟩ := hr.uncons
  obtain ⟨A2, n2, c2, d2, d3, ha, hr⟩ := hr.at3
  obtain ⟨A4, n4, c4, d4, d5, hb, _⟩ := hr.at3
  exact ⟨bl, o, c, rfl, A2, n2, c2, A4, n4, c4, fun w1 hb' => ⟨cell_up hb' d2, cell_up hb' d3, cell_up hb' d4, cell_up hb' d5, ha.up hb', hb.up hb'⟩, hh⟩
end Go.Proofs.YtpokompplapkhaaGreatDoor
namespace Go.Proofs.YtpokompplapkhaaGreatDoor
open Go.RowKit
set_option linter.unusedVariables false
set_option linter.unusedSimpArgs false
/-- Parts with spaces between. -/
def jn : List Tr → List UInt8
  | [] => []
  | t :: ts => t.txt ++ (match ts with | [] => [] | _ :: _ => 32 :: jn ts)
theorem txts_jn : ∀ (ps : List Tr), ps ≠ [] → Tr.txts ps = jn ps ++ [41]
  | [], h => absurd rfl h
  | [t], _ => by simp [Tr.txts, jn]
  | t :: u :: r, _ => by
    have := txts_jn (u :: r) (by simp)
    rw [Tr.txts, jn]
    simp only [this]
    simp
theorem jn_snoc (t : Tr) : ∀ (ps : List Tr), ps ≠ [] → jn (ps ++ [t]) = jn ps ++ 32 :: t.txt
  | [], h => absurd rfl h
  | [u], _ => by simp [jn]
  | u :: v :: r, _ => by
    have := jn_snoc t (v :: r) (by simp)
    simp only [List.cons_append] at this ⊢
    rw [jn]
    simp only [this]
    rw [jn]
    simp
theorem jn_take_le : ∀ (ps : List Tr) (k : Nat), (jn (ps.take k)).length ≤ (jn ps).length
  | [], k => by simp
  | t :: ts, 0 => by simp [jn]
  | t :: ts, k + 1 => by
    rw [List.take_succ_cons]
    have := jn_take_le ts k
    cases ts with
    | nil => simp [jn]
    | cons u r =>
      cases k with
      | zero => simp [jn]
      | succ k =>
        rw [List.take_succ_cons] at this ⊢
        rw [jn, jn]
        simp only [List.length_append, List.length_cons]
        omega
theorem TRow.get {w : World} {ok : Nat → Prop} {ps : List Tr} : ∀ {b o : Nat} {k : Nat} {t : Tr}, TRow w ok ps (some ⟨b, o, none⟩) → ps[k]? = some t →
    ∃ A n c, w.cell? ⟨b, o + k * 2, none⟩ = some (.string (St t.atom)) ∧ w.cell? ⟨b, o + k * 2 + 1, none⟩ = some (.slice A n c) ∧ TAt w ok t (.agg #[.string (St t.atom), .slice A n c]) := by
  induction ps with
  | nil => intro b o k t h hk; simp at hk
  | cons a ts ih =>
    intro b o k t h hk
    obtain ⟨A, n, c, h0, h1, ha, hr⟩ := h.at3
    cases k with
    | zero =>
      simp at hk
      subst hk
      exact ⟨A, n, c, by simpa using h0, by simpa using h1, ha⟩
    | succ k =>
      obtain ⟨A', n', c', g0, g1, g2⟩ := ih hr (by simpa using hk)
      refine ⟨A', n', c', ?_, ?_, g2⟩
      · rw [show o + (k + 1) * 2 = o + 2 + k * 2 by omega]; exact g0
      · rw [show o + (k + 1) * 2 + 1 = o + 2 + k * 2 + 1 by omega]; exact g1
set_option maxHeartbeats 2000000 in
theorem l1Text_atom (s : List UInt8) (hs : s ≠ []) (ps : List Tr) (v : Value) (w : World) (hp : TAt w (fun _ => True) (.mk s ps) v) :
    Calls Tryz.prog 65 #[v] w fun e w' => e = .returned (.string (St s)) ∧ Below w.heap.size w w' := by
  obtain ⟨A, c, rfl, _⟩ := TAt.parts hp
  have k0 := St_ne hs
  clear hp
  go_enter Tryz.func65, Tryz.ntmps65
  go_wp2
  go_ret
  exact ⟨rfl, up1 w _⟩
set_option maxHeartbeats 4000000 in
set_option maxRecDepth 100000 in
theorem l1Text_list (ps : List Tr) (hps : ps ≠ []) (hpl : ps.length ≤ 1000000000000000) (hl : (jn ps).length ≤ 1000000000000000) (ih : ∀ t ∈ ps, ∀ (v : Value) (w : World), TAt w (fun _ => True) t v → Calls Tryz.prog 65 #[v] w fun e w' => e = .returned (.string (St t.txt)) ∧ Below w.heap.size w w')
    (v : Value) (w : World) (hp : TAt w (fun _ => True) (.mk [] ps) v) :
    Calls Tryz.prog 65 #[v] w fun e w' => e = .returned (.string (St (40 :: (jn ps ++ [41])))) ∧ Below w.heap.size w w' := by
  obtain ⟨A, c, rfl, hr⟩ := TAt.parts hp
  obtain ⟨b, o, rfl⟩ : ∃ b o, A = some ⟨b, o, none⟩ := by
    cases ps with
    | nil => exact absurd rfl hps
    | cons t ts =>
      obtain ⟨s, q⟩ := t
      obtain ⟨b, o, _, _, rfl, _⟩ := hr.uncons
      exact ⟨b, o, rfl⟩
  have IH := Lib.hid ih
  have HROW : Hid (∀ w1, Below w.heap.size w w1 → TRow w1 (fun _ => True) ps (some ⟨b, o, none⟩)) := fun w1 hb => hr.up hb
  have HLL : Hid (∀ k, (jn (ps.take k)).length ≤ 1000000000000000) := fun k => Nat.le_trans (jn_take_le ps k) hl
  have HSN : Hid (∀ k t, ps[k]? = some t → 0 < k → jn (ps.take (k + 1)) = jn (ps.take k) ++ 32 :: t.txt) := fun k t hk h0 => by
    have hkl := (List.getElem?_eq_some_iff.1 hk).1
    rw [List.take_add_one, hk]
    exact jn_snoc t _ (by
      intro h
      have := congrArg List.length h
      rw [List.length_take] at this
      simp only [List.length_nil] at this
      omega)
  have HS0 : Hid (∀ t, ps[0]? = some t → jn (ps.take 1) = t.txt) := fun t hk => by
    cases ps with
    | nil => simp at hk
    | cons a r => simp at hk; subst hk; simp [jn]
  clear hp hr ih hl
  obtain ⟨n, hn⟩ : ∃ n, n = ps.length := ⟨_, rfl⟩
  rw [← hn]
  have HN := Lib.hid hn
  have hn0 : 0 < n := by rw [hn]; exact List.length_pos_iff.2 hps
  have hnb : (n : Int) ≤ 1000000000000000 := by omega
  clear hn hps
  obtain ⟨res, hres⟩ : ∃ res, res = St (40 :: (jn ps ++ [41])) := ⟨_, rfl⟩
  rw [← hres]
  have HRES := Lib.hid hres
  clear hres
  go_enter Tryz.func65, Tryz.ntmps65
  go_wp2
  go_loopg [3, 4] n (fun m v3 v4 wr => ∃ (k : Nat) (u : ByteArray), v3 = .string u ∧ v4 = .int .i64 k ∧ Hid (m + k = n ∧ u = St (40 :: jn (ps.take k)) ∧ u.size ≤ 1000000000000001) ∧ Hid (Below w.heap.size w wr) ∧ Hid (wr.heap[w.heap.size]? = some (.cells #[.string (St []), .slice (some ⟨b, o, none⟩) n c] 59 (0, 0))))
  case atStart => exact ⟨0, ⟨#[40]⟩, rfl, rfl, ⟨rfl, rfl, by decide⟩, up1 w _, block_new w _⟩
  case round =>
    obtain ⟨k, u, rfl, rfl, HK, HB, HX⟩ := hrel
    obtain ⟨hk, hu, husz⟩ := HK.out
    have HU := Lib.hid hu
    have e1 : wr.cell? ⟨w.heap.size, 1, none⟩ = some (.slice (some ⟨b, o, none⟩) n c) := block_cell HX.out 1
    cases gk with
    | zero =>
      have h1 : decide (k < n) = false := decide_eq_false (by omega)
      have hend : res = u ++ ⟨#[41]⟩ := by
        have h2 := HRES.out
        rw [h2, hu, List.take_of_length_le (by have := HN.out; omega)]
        apply ByteArray.ext
        simp [ByteArray.data_append]
      subst hend
      clear hk hu HK
      go_wp2
      go_ret
      exact ⟨rfl, HB.out⟩
    | succ m =>
      have h1 : decide (k < n) = true := decide_eq_true (by omega)
      have hkn : k < n := by omega
      have hkl : k < ps.length := by have := HN.out; omega
      obtain ⟨t, ht⟩ : ∃ t, ps[k]? = some t := ⟨_, List.getElem?_eq_getElem hkl⟩
      obtain ⟨A', n', c', d0, d1, hta⟩ := (HROW.out wr HB.out).get ht
      have HTX := Lib.hid (IH.out t (List.mem_of_getElem? ht) _ wr hta)
      have hnext := HLL.out (k + 1)
      generalize t.atom = x at *
      by_cases hk0 : k = 0
      · have hk1 : decide (0 < k) = false := decide_eq_false (by omega)
        have hsz : (St t.txt).size ≤ 1000000000000000 := by
          have h2 := hnext
          have hj := HS0.out t (by rw [← hk0]; exact ht)
          rw [hk0, hj] at h2
          exact h2
        have HK2 : Hid (m + (k + 1) = n ∧ u ++ St t.txt = St (40 :: jn (ps.take (k + 1))) ∧ (u ++ St t.txt).size ≤ 1000000000000001) := by
          have hj := HS0.out t (by rw [← hk0]; exact ht)
          have hu2 : u = ⟨#[40]⟩ := by rw [hu, hk0]; rfl
          refine ⟨by omega, ?_, ?_⟩
          · rw [hk0, hj, hu2]
            apply ByteArray.ext
            simp [ByteArray.data_append]
          · rw [ByteArray.size_append, hu2]
            have : (⟨#[40]⟩ : ByteArray).size = 1 := rfl
            omega
        clear hk hu HK hkl hnext hta ht hk0
        generalize St t.txt = y at *
        go_wp2_with (go_at_call 65; (with_reducible refine HTX.out.mono ?_); rintro e w2 ⟨rfl, hb2⟩; have HB2 := Lib.hid (up_trans HB.out hb2); have HX2 := Lib.hid (block_up hb2 HX.out); clear hb2)
        go_roundg m
        case measure => omega
        case rel => exact ⟨k + 1, _, rfl, rfl, HK2, HB2, HX2⟩
      · have hk1 : decide (0 < k) = true := decide_eq_true (by omega)
        have hj := HSN.out k t ht (by omega)
        have hsz : (St t.txt).size ≤ 1000000000000000 := by
          have h2 : (jn (ps.take (k + 1))).length ≤ 1000000000000000 := hnext
          rw [hj] at h2
          simp only [List.length_append, List.length_cons] at h2
          show t.txt.length ≤ 1000000000000000
          omega
        have HK2 : Hid (m + (k + 1) = n ∧ u ++ ⟨#[32]⟩ ++ St t.txt = St (40 :: jn (ps.take (k + 1))) ∧ (u ++ ⟨#[32]⟩ ++ St t.txt).size ≤ 1000000000000001) := by
          have hcat : u ++ ⟨#[32]⟩ ++ St t.txt = St (40 :: jn (ps.take (k + 1))) := by
            rw [hj, hu]
            apply ByteArray.ext
            simp [ByteArray.data_append]
          refine ⟨by omega, hcat, ?_⟩
          rw [hcat]
          show (40 :: jn (ps.take (k + 1))).length ≤ 1000000000000001
          simp only [List.length_cons]
          omega
        clear hk hu HK hkl hj hnext hta ht
        generalize St t.txt = y at *
        go_wp2_with (go_at_call 65; (with_reducible refine HTX.out.mono ?_); rintro e w2 ⟨rfl, hb2⟩; have HB2 := Lib.hid (up_trans HB.out hb2); have HX2 := Lib.hid (block_up hb2 HX.out); clear hb2)
        go_roundg m
        case measure => omega
        case rel => exact ⟨k + 1, _, rfl, rfl, HK2, HB2, HX2⟩
theorem jn_mem : ∀ {ps : List Tr} {t : Tr}, t ∈ ps → t.txt.length ≤ (jn ps).length
  | [a], t, h => by
    simp at h
    subst h
    simp [jn]
  | a :: u :: q, t, h => by
    rw [jn]
    rcases List.mem_cons.1 h with rfl | h
    · simp
    · have := jn_mem h
      simp only [List.length_append, List.length_cons]
      omega
theorem l1Text_any : ∀ (d : Nat) (t : Tr), t.dep ≤ d → t.wf → t.txt.length ≤ 1000000000000000 → ∀ (v : Value) (w : World), TAt w (fun _ => True) t v → Calls Tryz.prog 65 #[v] w fun e w' => e = .returned (.string (St t.txt)) ∧ Below w.heap.size w w' := by
  intro d
  induction d with
  | zero =>
    rintro ⟨s, ps⟩ hd hw hl v w hp
    rcases hw with ⟨hs, _, rfl⟩ | ⟨rfl, _, _⟩
    · rw [show (Tr.mk s []).txt = s by simp [Tr.txt, hs]]
      exact l1Text_atom s hs [] v w hp
    · simp [Tr.dep] at hd
  | succ d ih =>
    rintro ⟨s, ps⟩ hd hw hl v w hp
    rcases hw with ⟨hs, _, rfl⟩ | ⟨rfl, hps, hws⟩
    · rw [show (Tr.mk s []).txt = s by simp [Tr.txt, hs]]
      exact l1Text_atom s hs [] v w hp
    · have hd' : Tr.deps ps ≤ d := by simpa [Tr.dep] using hd
      have htx : (Tr.mk [] ps).txt = 40 :: (jn ps ++ [41]) := by simp [Tr.txt, txts_jn ps hps]
      rw [htx] at hl ⊢
      simp only [List.length_cons, List.length_append, List.length_nil] at hl
      exact l1Text_list ps hps (by have h1 := txts_len ps; rw [txts_jn ps hps] at h1; simp only [List.length_append, List.length_cons, List.length_nil] at h1; omega) (by omega) (fun t ht v w h => ih t (Nat.le_trans (deps_mem ps t ht) hd') (wfs_mem hws t ht) (by have := jn_mem ht; omega) v w h) v w hp
end Go.Proofs.YtpokompplapkhaaGreatDoor
namespace Go.Proofs.YtpokompplapkhaaGreatDoor
open Go.RowKit
set_option linter.unusedVariables false
set_option linter.unusedSimpArgs false
end Go.Proofs.YtpokompplapkhaaGreatDoor

