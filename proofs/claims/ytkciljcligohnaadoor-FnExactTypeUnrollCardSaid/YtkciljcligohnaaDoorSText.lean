/- The reference's l1Text. -/
import Derived.Test.YtkciljcligohnaaDoorRen4
import Derived.Test.YtkciljcligohnaaDoorTxt
namespace Go.Proofs.YtkciljcligohnaaDoor
open Go.RowKit
set_option linter.unusedVariables false
set_option linter.unusedSimpArgs false

/-- Parts with spaces between. -/
def jn : List Tr → List UInt8
  | [] => []
  | t :: ts => t.txt ++ (match ts with | [] => [] | _ :: _ => 32 :: jn ts)
theorem txts_jn : ∀ (ps : List Tr), ps ≠ [] → Tr.txts ps = jn ps ++ [41]
  | [], h => absurd rfl h
  | [t], _ => by simp [Tr.txts, jn]
  | t :: u :: r, _ => by
    have := txts_jn (u :: r) (by simp)
    rw [Tr.txts, jn]
    simp only [this]
    simp
theorem jn_snoc (t : Tr) : ∀ (ps : List Tr), ps ≠ [] → jn (ps ++ [t]) = jn ps ++ 32 :: t.txt
  | [], h => absurd rfl h
  | [u], _ => by simp [jn]
  | u :: v :: r, _ => by
    have := jn_snoc t (v :: r) (by simp)
    simp only [List.cons_append] at this ⊢
    rw [jn]
    simp only [this]
    rw [jn]
    simp
theorem jn_take_le : ∀ (ps : List Tr) (k : Nat), (jn (ps.take k)).length ≤ (jn ps).length
  | [], k => by simp
  | t :: ts, 0 => by simp [jn]
  | t :: ts, k + 1 => by
    rw [List.take_succ_cons]
    have := jn_take_le ts k
    cases ts with
    | nil => simp [jn]
    | cons u r =>
      cases k with
      | zero => simp [jn]
      | succ k =>
        rw [List.take_succ_cons] at this ⊢
        rw [jn, jn]
        simp only [List.length_append, List.length_cons]
        omega

theorem TRow.get {w : World} {ok : Nat → Prop} {ps : List Tr} : ∀ {b o : Nat} {k : Nat} {t : Tr}, TRow w ok ps (some ⟨b, o, none⟩) → ps[k]? = some t →
    ∃ A n c, w.cell? ⟨b, o + k * 2, none⟩ = some (.string (St t.atom)) ∧ w.cell? ⟨b, o + k * 2 + 1, none⟩ = some (.slice A n c) ∧ TAt w ok t (.agg #[.string (St t.atom), .slice A n c]) := by
  induction ps with
  | nil => intro b o k t h hk; simp at hk
  | cons a ts ih =>
    intro b o k t h hk
    obtain ⟨A, n, c, h0, h1, ha, hr⟩ := h.at3
    cases k with
    | zero =>
      simp at hk
      subst hk
      exact ⟨A, n, c, by simpa using h0, by simpa using h1, ha⟩
    | succ k =>
      obtain ⟨A', n', c', g0, g1, g2⟩ := ih hr (by simpa using hk)
      refine ⟨A', n', c', ?_, ?_, g2⟩
      · rw [show o + (k + 1) * 2 = o + 2 + k * 2 by omega]; exact g0
      · rw [show o + (k + 1) * 2 + 1 = o + 2 + k * 2 + 1 by omega]; exact g1

set_option maxHeartbeats 2000000 in
theorem l1Text_atom (s : List UInt8) (hs : s ≠ []) (ps : List Tr) (v : Value) (w : World) (hp : TAt w (fun _ => True) (.mk s ps) v) :
    Calls Tryd.prog 78 #[v] w fun e w' => e = .returned (.string (St s)) ∧ Below w.heap.size w w' := by
  obtain ⟨A, c, rfl, _⟩ := TAt.parts hp
  have k0 := St_ne hs
  clear hp
  go_enter Tryd.func78, Tryd.ntmps78
  go_wp2
  go_ret
  exact ⟨rfl, up1 w _⟩

set_option maxHeartbeats 4000000 in
set_option maxRecDepth 100000 in
theorem l1Text_list (ps : List Tr) (hps : ps ≠ []) (hpl : ps.length ≤ 1000000) (hl : (jn ps).length ≤ 1000000) (ih : ∀ t ∈ ps, ∀ (v : Value) (w : World), TAt w (fun _ => True) t v → Calls Tryd.prog 78 #[v] w fun e w' => e = .returned (.string (St t.txt)) ∧ Below w.heap.size w w')
    (v : Value) (w : World) (hp : TAt w (fun _ => True) (.mk [] ps) v) :
    Calls Tryd.prog 78 #[v] w fun e w' => e = .returned (.string (St (40 :: (jn ps ++ [41])))) ∧ Below w.heap.size w w' := by
  obtain ⟨A, c, rfl, hr⟩ := TAt.parts hp
  obtain ⟨b, o, rfl⟩ : ∃ b o, A = some ⟨b, o, none⟩ := by
    cases ps with
    | nil => exact absurd rfl hps
    | cons t ts =>
      obtain ⟨s, q⟩ := t
      obtain ⟨b, o, _, _, rfl, _⟩ := hr.uncons
      exact ⟨b, o, rfl⟩
  have IH := Lib.hid ih
  have HROW : Hid (∀ w1, Below w.heap.size w w1 → TRow w1 (fun _ => True) ps (some ⟨b, o, none⟩)) := fun w1 hb => hr.up hb
  have HLL : Hid (∀ k, (jn (ps.take k)).length ≤ 1000000) := fun k => Nat.le_trans (jn_take_le ps k) hl
  have HSN : Hid (∀ k t, ps[k]? = some t → 0 < k → jn (ps.take (k + 1)) = jn (ps.take k) ++ 32 :: t.txt) := fun k t hk h0 => by
    have hkl := (List.getElem?_eq_some_iff.1 hk).1
    rw [List.take_add_one, hk]
    exact jn_snoc t _ (by
      intro h
      have := congrArg List.length h
      rw [List.length_take] at this
      simp only [List.length_nil] at this
      omega)
  have HS0 : Hid (∀ t, ps[0]? = some t → jn (ps.take 1) = t.txt) := fun t hk => by
    cases ps with
    | nil => simp at hk
    | cons a r => simp at hk; subst hk; simp [jn]
  clear hp hr ih hl
  obtain ⟨n, hn⟩ : ∃ n, n = ps.length := ⟨_, rfl⟩
  rw [← hn]
  have HN := Lib.hid hn
  have hn0 : 0 < n := by rw [hn]; exact List.length_pos_iff.2 hps
  have hnb : (n : Int) ≤ 1000000 := by omega
  clear hn hps
  obtain ⟨res, hres⟩ : ∃ res, res = St (40 :: (jn ps ++ [41])) := ⟨_, rfl⟩
  rw [← hres]
  have HRES := Lib.hid hres
  clear hres
  go_enter Tryd.func78, Tryd.ntmps78
  go_wp2
  go_loopg [3, 4] n (fun m v3 v4 wr => ∃ (k : Nat) (u : ByteArray), v3 = .string u ∧ v4 = .int .i64 k ∧ Hid (m + k = n ∧ u = St (40 :: jn (ps.take k)) ∧ u.size ≤ 1000001) ∧ Hid (Below w.heap.size w wr) ∧ Hid (wr.heap[w.heap.size]? = some (.cells #[.string (St []), .slice (some ⟨b, o, none⟩) n c] 43 (0, 0))))
  case atStart => exact ⟨0, ⟨#[40]⟩, rfl, rfl, ⟨rfl, rfl, by decide⟩, up1 w _, block_new w _⟩
  case round =>
    obtain ⟨k, u, rfl, rfl, HK, HB, HX⟩ := hrel
    obtain ⟨hk, hu, husz⟩ := HK.out
    have HU := Lib.hid hu
    have e1 : wr.cell? ⟨w.heap.size, 1, none⟩ = some (.slice (some ⟨b, o, none⟩) n c) := block_cell HX.out 1
    cases gk with
    | zero =>
      have h1 : decide (k < n) = false := decide_eq_false (by omega)
      have hend : res = u ++ ⟨#[41]⟩ := by
        have h2 := HRES.out
        rw [h2, hu, List.take_of_length_le (by have := HN.out; omega)]
        apply ByteArray.ext
        simp [ByteArray.data_append]
      subst hend
      clear hk hu HK
      go_wp2
      go_ret
      exact ⟨rfl, HB.out⟩
    | succ m =>
      have h1 : decide (k < n) = true := decide_eq_true (by omega)
      have hkn : k < n := by omega
      have hkl : k < ps.length := by have := HN.out; omega
      obtain ⟨t, ht⟩ : ∃ t, ps[k]? = some t := ⟨_, List.getElem?_eq_getElem hkl⟩
      obtain ⟨A', n', c', d0, d1, hta⟩ := (HROW.out wr HB.out).get ht
      have HTX := Lib.hid (IH.out t (List.mem_of_getElem? ht) _ wr hta)
      have hnext := HLL.out (k + 1)
      generalize t.atom = x at *
      by_cases hk0 : k = 0
      · have hk1 : decide (0 < k) = false := decide_eq_false (by omega)
        have hsz : (St t.txt).size ≤ 1000000 := by
          have h2 := hnext
          have hj := HS0.out t (by rw [← hk0]; exact ht)
          rw [hk0, hj] at h2
          exact h2
        have HK2 : Hid (m + (k + 1) = n ∧ u ++ St t.txt = St (40 :: jn (ps.take (k + 1))) ∧ (u ++ St t.txt).size ≤ 1000001) := by
          have hj := HS0.out t (by rw [← hk0]; exact ht)
          have hu2 : u = ⟨#[40]⟩ := by rw [hu, hk0]; rfl
          refine ⟨by omega, ?_, ?_⟩
          · rw [hk0, hj, hu2]
            apply ByteArray.ext
            simp [ByteArray.data_append]
          · rw [ByteArray.size_append, hu2]
            have : (⟨#[40]⟩ : ByteArray).size = 1 := rfl
            omega
        clear hk hu HK hkl hnext hta ht hk0
        generalize St t.txt = y at *
        go_wp2_with (go_at_call 78; (with_reducible refine HTX.out.mono ?_); rintro e w2 ⟨rfl, hb2⟩; have HB2 := Lib.hid (up_trans HB.out hb2); have HX2 := Lib.hid (block_up hb2 HX.out); clear hb2)
        go_roundg m
        case measure => omega
        case rel => exact ⟨k + 1, _, rfl, rfl, HK2, HB2, HX2⟩
      · have hk1 : decide (0 < k) = true := decide_eq_true (by omega)
        have hj := HSN.out k t ht (by omega)
        have hsz : (St t.txt).size ≤ 1000000 := by
          have h2 : (jn (ps.take (k + 1))).length ≤ 1000000 := hnext
          rw [hj] at h2
          simp only [List.length_append, List.length_cons] at h2
          show t.txt.length ≤ 1000000
          omega
        have HK2 : Hid (m + (k + 1) = n ∧ u ++ ⟨#[32]⟩ ++ St t.txt = St (40 :: jn (ps.take (k + 1))) ∧ (u ++ ⟨#[32]⟩ ++ St t.txt).size ≤ 1000001) := by
          have hcat : u ++ ⟨#[32]⟩ ++ St t.txt = St (40 :: jn (ps.take (k + 1))) := by
            rw [hj, hu]
            apply ByteArray.ext
            simp [ByteArray.data_append]
          refine ⟨by omega, hcat, ?_⟩
          rw [hcat]
          show (40 :: jn (ps.take (k + 1))).length ≤ 1000001
          simp only [List.length_cons]
          omega
        clear hk hu HK hkl hj hnext hta ht
        generalize St t.txt = y at *
        go_wp2_with (go_at_call 78; (with_reducible refine HTX.out.mono ?_); rintro e w2 ⟨rfl, hb2⟩; have HB2 := Lib.hid (up_trans HB.out hb2); have HX2 := Lib.hid (block_up hb2 HX.out); clear hb2)
        go_roundg m
        case measure => omega
        case rel => exact ⟨k + 1, _, rfl, rfl, HK2, HB2, HX2⟩

theorem jn_mem : ∀ {ps : List Tr} {t : Tr}, t ∈ ps → t.txt.length ≤ (jn ps).length
  | [a], t, h => by
    simp at h
    subst h
    simp [jn]
  | a :: u :: q, t, h => by
    rw [jn]
    rcases List.mem_cons.1 h with rfl | h
    · simp
    · have := jn_mem h
      simp only [List.length_append, List.length_cons]
      omega
theorem l1Text_any : ∀ (d : Nat) (t : Tr), t.dep ≤ d → t.wf → t.txt.length ≤ 1000000 → ∀ (v : Value) (w : World), TAt w (fun _ => True) t v → Calls Tryd.prog 78 #[v] w fun e w' => e = .returned (.string (St t.txt)) ∧ Below w.heap.size w w' := by
  intro d
  induction d with
  | zero =>
    rintro ⟨s, ps⟩ hd hw hl v w hp
    rcases hw with ⟨hs, _, rfl⟩ | ⟨rfl, _, _⟩
    · rw [show (Tr.mk s []).txt = s by simp [Tr.txt, hs]]
      exact l1Text_atom s hs [] v w hp
    · simp [Tr.dep] at hd
  | succ d ih =>
    rintro ⟨s, ps⟩ hd hw hl v w hp
    rcases hw with ⟨hs, _, rfl⟩ | ⟨rfl, hps, hws⟩
    · rw [show (Tr.mk s []).txt = s by simp [Tr.txt, hs]]
      exact l1Text_atom s hs [] v w hp
    · have hd' : Tr.deps ps ≤ d := by simpa [Tr.dep] using hd
      have htx : (Tr.mk [] ps).txt = 40 :: (jn ps ++ [41]) := by simp [Tr.txt, txts_jn ps hps]
      rw [htx] at hl ⊢
      simp only [List.length_cons, List.length_append, List.length_nil] at hl
      exact l1Text_list ps hps (by have h1 := txts_len ps; rw [txts_jn ps hps] at h1; simp only [List.length_append, List.length_cons, List.length_nil] at h1; omega) (by omega) (fun t ht v w h => ih t (Nat.le_trans (deps_mem ps t ht) hd') (wfs_mem hws t ht) (by have := jn_mem ht; omega) v w h) v w hp

end Go.Proofs.YtkciljcligohnaaDoor
