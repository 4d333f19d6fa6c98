/- TypeNames and TypeClosed, both. -/
import Derived.Test.YtkciljcligohnaaDoorNm
namespace Go.Proofs.YtkciljcligohnaaDoor
open Go.RowKit
set_option linter.unusedVariables false
set_option linter.unusedSimpArgs false

/-- The free names of a type. -/
def NT.names (n : NT) : List (List UInt8) := n.fr [] []
theorem names_len (n : NT) : n.names.length ≤ n.atoms := by
  have := fr_len n [] []
  simpa [NT.names] using this

theorem any_step {ls : List (List UInt8)} {b : Bool} (hb : ls.any loopB = b) : ∀ k, k ≤ ls.length → (∀ x ∈ ls.take k, loopB x = false) → (∀ x, ls[k]? = some x → loopB x = true → b = true) ∧ (∀ x, ls[k]? = some x → loopB x = false → ∀ y ∈ ls.take (k + 1), loopB y = false) ∧ (ls.length ≤ k → b = false) := fun k hk ht => by
  refine ⟨fun x h1 h2 => ?_, fun x h1 h2 y hy => ?_, fun h => ?_⟩
  · rw [← hb]
    exact List.any_eq_true.2 ⟨x, List.mem_of_getElem? h1, h2⟩
  · rw [List.take_add_one, h1] at hy
    simp at hy
    rcases hy with hy | rfl
    · exact ht y hy
    · exact h2
  · rw [← hb]
    rw [List.take_of_length_le h] at ht
    cases ha : ls.any loopB with
    | false => rfl
    | true =>
      obtain ⟨x, hx, hl⟩ := List.any_eq_true.1 ha
      rw [ht x hx] at hl
      cases hl

set_option maxHeartbeats 4000000 in
set_option maxRecDepth 100000 in
theorem indexFunc_any (ls : List (List UInt8)) (A : Option Addr) (c : Nat) (w : World) (hn : ls.length ≤ 1000000) (hx : SCells w A ls) :
    Calls Tryd.prog 110 #[.slice A ls.length c, .func (.func 53) #[] #[]] w fun e w' => (∃ x : Int, e = .returned (.int .i64 x) ∧ decide (0 ≤ x) = ls.any loopB) ∧ Below w.heap.size w w' := by
  generalize hb : ls.any loopB = b
  have HX := Lib.hid hx
  have HBB := Lib.hid (any_step hb)
  have HL : Hid (∀ (s : List UInt8) (w : World), Calls Tryd.prog 53 #[.string (St s)] w fun e w' => e = .returned (.bool (loopB s)) ∧ Below w.heap.size w w') := fun s w => isLoopName_all s w
  clear hx hb
  generalize hN : ls.length = n at *
  have HN := Lib.hid hN
  clear hN
  go_enter Tryd.func110, Tryd.ntmps110
  go_wp2
  go_loopg [5, 8] n (fun m v5 v8 wr => ∃ k : Nat, v8 = .int .i64 k ∧ Hid (m + k = n ∧ ∀ x ∈ ls.take k, loopB x = false) ∧ Hid (Below w.heap.size w wr))
  case atStart => exact ⟨0, rfl, ⟨rfl, by simp⟩, Below.refl _ _⟩
  case round =>
    obtain ⟨k, rfl, HK, HB⟩ := hrel
    obtain ⟨hk, htk⟩ := HK.out
    cases gk with
    | zero =>
      have h1 : decide (k < n) = false := decide_eq_false (by omega)
      have hbt := (HBB.out k (by first | omega | (rw [HN.out]; omega)) htk).2.2 (by first | omega | (rw [HN.out]; omega))
      subst hbt
      clear hk htk HK
      go_wp2
      go_ret
      exact ⟨⟨-1, rfl, by decide⟩, HB.out⟩
    | succ m =>
      have h1 : decide (k < n) = true := decide_eq_true (by omega)
      have hkn : k < n := by omega
      have hxs : k < ls.length := by rw [HN.out]; exact hkn
      obtain ⟨x, hx⟩ : ∃ x, ls[k]? = some x := ⟨_, List.getElem?_eq_getElem hxs⟩
      have hcx := HX.out.up HB.out
      rcases hcx with hcx | ⟨gx, ox, rfl, hcx⟩
      · rw [hcx] at hx; cases hx
      have d1 := hcx k x hx
      have HLX := Lib.hid (HL.out x)
      clear hcx
      cases hxe : loopB x with
      | true =>
        rw [hxe] at HLX
        have hb := (HBB.out k (by omega) htk).1 x hx hxe
        subst hb
        clear hk htk HK hxs hx hxe
        go_wp2_with (go_at_call 53; refine (HLX.out _).mono ?_; rintro e w2 ⟨rfl, hb2⟩; have HB2 := Lib.hid (up_trans HB.out hb2); clear hb2)
        go_ret
        exact ⟨⟨k, rfl, by simp⟩, HB2.out⟩
      | false =>
        rw [hxe] at HLX
        have HK2 : Hid (m + ((k + 1 : Nat)) = n ∧ ∀ y ∈ ls.take (k + 1), loopB y = false) := ⟨by omega, (HBB.out k (by omega) htk).2.1 x hx hxe⟩
        clear hk htk HK hxs hx hxe
        go_wp2_with (go_at_call 53; refine (HLX.out _).mono ?_; rintro e w2 ⟨rfl, hb2⟩; have HB2 := Lib.hid (up_trans HB.out hb2); clear hb2)
        go_roundg m
        case measure => omega
        case rel => exact ⟨k + 1, rfl, HK2, HB2.out⟩

theorem containsFunc_any (ls : List (List UInt8)) (A : Option Addr) (c : Nat) (w : World) (hn : ls.length ≤ 1000000) (hx : SCells w A ls) :
    Calls Tryd.prog 95 #[.slice A ls.length c, .func (.func 53) #[] #[]] w fun e w' => e = .returned (.bool (ls.any loopB)) ∧ Below w.heap.size w w' := by
  have H := Lib.hid (indexFunc_any ls A c w hn hx)
  clear hx hn
  generalize ls.any loopB = b at *
  generalize ls.length = n at *
  go_enter Tryd.func95, Tryd.ntmps95
  go_wp2_with (go_at_call 110; refine H.out.mono ?_; rintro e w1 ⟨⟨x, rfl, hxb⟩, hb1⟩; have HB1 := Lib.hid hb1; clear hb1)
  go_ret
  exact ⟨rfl, HB1.out⟩

theorem isClosed_any (n : NT) (hok : n.ok) (hn : n.atoms ≤ 900) (w : World) (p : Option Addr) (hp : TyAt w (n.db []) p) :
    Calls Tryd.prog 65 #[.pointer p] w fun e w' => e = .returned (.bool (!n.names.any loopB)) ∧ Below w.heap.size w w' := by
  have h := names_any (n.db []) w p hp (by rw [NT.db_atoms]; exact hn)
  rw [names_fr n [] [] hok (by simp)] at h
  have H : Hid (Calls Tryd.prog 62 #[.pointer p] w (LPost w n.names)) := h
  have hl := names_len n
  have HCF : Hid (∀ (w1 : World) A c, SCells w1 A n.names → Calls Tryd.prog 95 #[.slice A n.names.length c, .func (.func 53) #[] #[]] w1 fun e w' => e = .returned (.bool (n.names.any loopB)) ∧ Below w1.heap.size w1 w') := fun w1 A c h => containsFunc_any n.names A c w1 (by omega) h
  clear h hp hl hn hok
  generalize n.names = ls at *
  generalize ls.any loopB = b at *
  go_enter Tryd.func65, Tryd.ntmps65
  go_wp2_with (first
    | (go_at_call 62; refine H.out.mono ?_; rintro e w1 ⟨hb1, g, c, rfl, ho⟩; have HB1 := Lib.hid hb1; have HO := Lib.hid ho; clear hb1 ho)
    | (go_at_call 95; refine (HCF.out _ _ _ HO.out.reads).mono ?_; rintro e w2 ⟨rfl, hb2⟩; have HB2 := Lib.hid (up_trans HB1.out hb2); clear hb2))
  go_ret
  exact ⟨rfl, HB2.out⟩

/-- Whether a type is read and closed. -/
def closedOf : Option NT → Bool
  | none => false
  | some n => !n.names.any loopB

theorem TypeClosed_any (s : ByteArray) (w : World) (hs : s.size ≤ 9223372036854775807) :
    Calls Tryd.prog 33 #[.string s] w fun e w' => e = .returned (.bool (closedOf (rdTy s.data.toList))) ∧ Below w.heap.size w w' := by
  have hv := readType_rt s w hs
  have hn := fun v h => rdTy_some (l := s.data.toList) (n := v) h
  clear hs
  generalize rdTy s.data.toList = o at *
  cases o with
  | none =>
    clear hn
    go_enter Tryd.func33, Tryd.ntmps33
    go_wp2_with (go_at_call 46; refine hv.mono ?_; rintro e w1 ⟨hb1, rfl⟩)
    go_ret
    exact ⟨rfl, hb1⟩
  | some n =>
    have HN := Lib.hid fun w p h => isClosed_any n (hn n rfl).1 (by have := (hn n rfl).2; omega) w p h
    clear hn
    show Calls _ _ _ _ (fun e w' => e = .returned (.bool (!n.names.any loopB)) ∧ _)
    generalize n.names.any loopB = b at *
    go_enter Tryd.func33, Tryd.ntmps33
    go_wp2_with (first
      | (go_at_call 46; refine hv.mono ?_; rintro e w1 ⟨hb1, g, rfl, hp⟩; have HP := Lib.hid hp; have HB1 := Lib.hid hb1; clear hp hb1)
      | (go_at_call 65; refine (HN.out _ _ HP.out).mono ?_; rintro e w2 ⟨rfl, hb2⟩; have HB2 := Lib.hid (up_trans HB1.out hb2); clear hb2))
    go_ret
    exact ⟨rfl, HB2.out⟩

theorem own_new2 (w : World) (o : Obj) (B : Nat) (h : B ≤ w.heap.size + 2) : SOwn (((w.alloc o).alloc (.cells #[] 9)).alloc (.cells #[] 9)) B [] (w.heap.size + 2) 0 := by
  have e : ((w.alloc o).alloc (.cells #[] 9)).heap.size = w.heap.size + 2 := by simp
  have := SOwn.new ((w.alloc o).alloc (.cells #[] 9)) B (by rw [e]; exact h) [] (by simp)
  rw [e] at this
  exact this

set_option maxHeartbeats 4000000 in
set_option maxRecDepth 100000 in
theorem l1Closed_none (s : ByteArray) (w : World) (hs : s.size ≤ 9223372036854775807) (h : rdTy s.data.toList = none) : Calls Tryd.prog 66 #[.string s] w (STPost w none) := by
  have hc : ∀ w, Calls Tryd.prog 44 #[.string s] w (fun e w' => Below w.heap.size w w' ∧ ∃ x A n c, e = .returned (.tuple #[.agg #[.string x, .slice A n c], .bool false])) := fun w => by
    have := l1Type_any s w hs
    rw [h] at this
    exact this
  have HCALL := Lib.hid hc
  clear hc hs h
  go_enter Tryd.func66, Tryd.ntmps66
  go_wp2_with (go_at_call 44; refine (HCALL.out _).mono ?_; rintro e w1 ⟨hb1, x, A, n, c, rfl⟩; have g0 : w1.heap[w.heap.size]? = some (.cells #[.string (St []), .slice none 0 0] 43 (0, 0)) := block_up hb1 (block_new w _); have c0 : w1.cell? ⟨w.heap.size, 0, none⟩ = some (.string (St [])) := block_cell g0 0; have c1 : w1.cell? ⟨w.heap.size, 1, none⟩ = some (.slice none 0 0) := block_cell g0 1; have f0 := block_free g0 0; have f1 := block_free g0 1; have l0 := lt_of_block g0; have HB1 := Lib.hid (up_trans (up1 w _) hb1); clear hb1 g0)
  refine bodyPost_ret (v := .tuple #[.agg #[.string x, .slice A n c], .bool false]) (by simp [results, Tryd.results66, go_sem, c0, c1, l0]) rfl ?_
  exact ⟨by repeat (first | exact HB1.out | refine up_drew ?_ | refine up_alloc ?_ _ | refine set0 ?_ (Nat.le_refl _)), _, _, _, _, rfl⟩

set_option maxHeartbeats 8000000 in
set_option maxRecDepth 100000 in
theorem l1Closed_some (s : ByteArray) (w : World) (hs : s.size ≤ 9223372036854775807) (n : NT) (h : rdTy s.data.toList = some n) :
    Calls Tryd.prog 66 #[.string s] w (fun e w' => Below w.heap.size w w' ∧ ∃ x A n' c, e = .returned (.tuple #[.agg #[.string x, .slice A n' c], .bool (!n.names.any loopB)]) ∧ TAt w' (fun k => w.heap.size < k) n.toTr (.agg #[.string x, .slice A n' c])) := by
  have hc : ∀ w, Calls Tryd.prog 44 #[.string s] w (fun e w' => Below w.heap.size w w' ∧ ∃ x A n' c, e = .returned (.tuple #[.agg #[.string x, .slice A n' c], .bool true]) ∧ TAt w' (fun k => w.heap.size ≤ k) n.toTr (.agg #[.string x, .slice A n' c])) := fun w => by
    have := l1Type_any s w hs
    rw [h] at this
    exact this
  obtain ⟨hok, hat⟩ := rdTy_some h
  have HCALL := Lib.hid hc
  have hnl := names_len n
  have HF : Hid (∀ (w1 : World) (x : ByteArray) A n' c, TAt w1 (fun _ => True) n.toTr (.agg #[.string x, .slice A n' c]) → Calls Tryd.prog 64 #[.agg #[.string x, .slice A n' c], .slice (some ⟨w1.heap.size + 1, 0, none⟩) 0 0, .slice (some ⟨w1.heap.size + 2, 0, none⟩) 0 0] (((w1.alloc (.cells #[.string x, .slice A n' c] 43)).alloc (.cells #[] 9)).alloc (.cells #[] 9)) fun e w2 => ∃ g c3, e = .returned (.slice (some ⟨g, 0, none⟩) n.names.length c3) ∧ SCells w2 (some ⟨g, 0, none⟩) n.names ∧ Below (w1.heap.size + 1) ((w1.alloc (.cells #[.string x, .slice A n' c] 43))) w2) := fun w1 x A n' c ht => by
    refine (l1Free_any n hok _ _ (some ⟨w1.heap.size + 1, 0, none⟩) 0 [] (w1.heap.size + 2) (w1.heap.size + 2) 0 [] (((ht.up (up1 _ _)).up (up1 _ _)).up (up1 _ _)) (.inl rfl) (own_new2 w1 _ _ (by omega)) (by simp) (by simp; omega) (by simp; omega)).mono ?_
    rintro e w2 ⟨g, c2, he, ho, hg, _⟩
    refine ⟨g, c2, he, ho.reads, ?_⟩
    have hb0 : Below (w1.heap.size + 1) (w1.alloc (.cells #[.string x, .slice A n' c] 43)) (((w1.alloc (.cells #[.string x, .slice A n' c] 43)).alloc (.cells #[] 9)).alloc (.cells #[] 9)) := ((Below.refl _ _).alloc (by simp) _).alloc (by simp) _
    have := hb0.grown hg (by simp) (fun k hk => by cases hk; omega)
    exact this
  generalize hb : n.names.any loopB = b
  have HBB := Lib.hid (any_step hb)
  have HL : Hid (∀ (s : List UInt8) (w : World), Calls Tryd.prog 49 #[.string (St s)] w fun e w' => e = .returned (.bool (loopB s)) ∧ w = w') := fun s w => l1Loop_any (St s) w
  have hln : n.names.length ≤ 1000 := by omega
  clear hc hs h hok hat hnl hb
  generalize n.toTr = tr at *
  generalize n.names = ls at *
  generalize hN : ls.length = len at *
  have HN := Lib.hid hN
  clear hN
  go_enter Tryd.func66, Tryd.ntmps66
  go_wp2_with (first
    | (go_at_call 44; refine (HCALL.out _).mono ?_; rintro e w1 ⟨hb1, x, A, n, c, rfl, hv⟩; have HV := Lib.hid hv; have g0 : w1.heap[w.heap.size]? = some (.cells #[.string (St []), .slice none 0 0] 43 (0, 0)) := block_up hb1 (block_new w _); have G0 := Lib.hid g0; have HB1 := Lib.hid (up_trans (up1 w _) hb1); clear hb1 g0 hv)
    | (go_at_call 64; (refine (HF.out _ _ _ _ _ (HV.out.weak fun _ _ => trivial)).mono ?_; rintro e w2 ⟨g, c2, rfl, hcells, hb2⟩; have g0 : w2.heap[w.heap.size]? = some (.cells #[.string (St []), .slice none 0 0] 43 (0, 0)) := (hb2.block _ (by have := lt_of_block G0.out; omega)).trans (block_alloc G0.out _); have g1 : w2.heap[w1.heap.size]? = some (.cells #[.string x, .slice A n c] 43 (0, 0)) := (hb2.block _ (by omega)).trans (block_new w1 _); have c0 : w2.cell? ⟨w.heap.size, 0, none⟩ = some (.string (St [])) := block_cell g0 0; have c1 : w2.cell? ⟨w.heap.size, 1, none⟩ = some (.slice none 0 0) := block_cell g0 1; have f0 := block_free g0 0; have f1 := block_free g0 1; have l0 := lt_of_block g0; have k0 : w2.cell? ⟨w1.heap.size, 0, none⟩ = some (.string x) := block_cell g1 0; have k1 : w2.cell? ⟨w1.heap.size, 1, none⟩ = some (.slice A n c) := block_cell g1 1; have l1 := lt_of_block g1; have l01 : w.heap.size < w1.heap.size := lt_of_block G0.out; have HCE := Lib.hid hcells; have HB2 : Hid (Below w.heap.size w w2) := Below.trans (up_alloc HB1.out _) (hb2.mono (by omega)); have HV2 : Hid (TAt w2 (fun k => w.heap.size < k) tr (.agg #[.string x, .slice A n c])) := HV.out.move (fun k hk ho => ⟨by (have ho' : w.heap.size + 1 ≤ k := by simpa using ho); omega, (hb2.block k (by omega)).trans ((up1 w1 _).block k hk)⟩); clear hcells hb2 g0 g1)))
  go_loopg [7] len (fun m v7 wr => ∃ k : Nat, v7 = .int .i64 k ∧ wr = w2 ∧ Hid (m + k = len ∧ ∀ x ∈ ls.take k, loopB x = false))
  case atStart => exact ⟨0, rfl, rfl, rfl, by simp⟩
  case round =>
    obtain ⟨k, rfl, rfl, HK⟩ := hrel
    obtain ⟨hk, htk⟩ := HK.out
    have HFIN : Hid (Below w.heap.size w ((wr.setCell ⟨w.heap.size, 0, none⟩ (.string x)).setCell ⟨w.heap.size, 1, none⟩ (.slice A n c)) ∧ TAt ((wr.setCell ⟨w.heap.size, 0, none⟩ (.string x)).setCell ⟨w.heap.size, 1, none⟩ (.slice A n c)) (fun k => w.heap.size < k) tr (.agg #[.string x, .slice A n c])) :=
      ⟨set0 (set0 HB2.out (Nat.le_refl _)) (Nat.le_refl _), HV2.out.move fun k hk hok => ⟨hok, by
        rw [Below.heap_setCell _ ⟨w.heap.size, 1, none⟩ _ k (by show k ≠ w.heap.size; omega), Below.heap_setCell _ ⟨w.heap.size, 0, none⟩ _ k (by show k ≠ w.heap.size; omega)]⟩⟩
    cases gk with
    | zero =>
      have h1 : decide (k < len) = false := decide_eq_false (by omega)
      have hbt := (HBB.out k (by first | omega | (rw [HN.out]; omega)) htk).2.2 (by first | omega | (rw [HN.out]; omega))
      subst hbt
      clear hk htk HK
      go_wp2
      refine bodyPost_ret (v := .tuple #[.agg #[.string x, .slice A n c], .bool true]) (by simp [results, Tryd.results66, go_sem, c0, c1, l0]) rfl ?_
      exact ⟨HFIN.out.1, _, _, _, _, rfl, HFIN.out.2⟩
    | succ m =>
      have h1 : decide (k < len) = true := decide_eq_true (by omega)
      have hkn : k < len := by omega
      have hxs : k < ls.length := by rw [HN.out]; exact hkn
      obtain ⟨y, hy⟩ : ∃ y, ls[k]? = some y := ⟨_, List.getElem?_eq_getElem hxs⟩
      rcases HCE.out with hcx | ⟨gx, ox, hxe, hcx⟩
      · rw [hcx] at hy; cases hy
      cases hxe
      have d1 : wr.cell? ⟨g, k, none⟩ = some (.string (St y)) := by have := hcx k y hy; rwa [Nat.zero_add] at this
      have HLX := Lib.hid (HL.out y)
      clear hcx
      cases hye : loopB y with
      | true =>
        rw [hye] at HLX
        have hb := (HBB.out k (by omega) htk).1 y hy hye
        subst hb
        clear hk htk HK hxs hy hye
        go_wp2_with (go_at_call 49; refine (HLX.out _).mono ?_; rintro e w' ⟨rfl, rfl⟩)
        refine bodyPost_ret (v := .tuple #[.agg #[.string x, .slice A n c], .bool false]) (by simp [results, Tryd.results66, go_sem, c0, c1, l0]) rfl ?_
        exact ⟨HFIN.out.1, _, _, _, _, rfl, HFIN.out.2⟩
      | false =>
        rw [hye] at HLX
        have HK2 : Hid (m + ((k + 1 : Nat)) = len ∧ ∀ y ∈ ls.take (k + 1), loopB y = false) := ⟨by omega, (HBB.out k (by omega) htk).2.1 y hy hye⟩
        clear hk htk HK hxs hy hye
        go_wp2_with (go_at_call 49; refine (HLX.out _).mono ?_; rintro e w' ⟨rfl, rfl⟩)
        go_roundg m
        case measure => omega
        case rel => exact ⟨k + 1, rfl, rfl, HK2⟩

end Go.Proofs.YtkciljcligohnaaDoor
