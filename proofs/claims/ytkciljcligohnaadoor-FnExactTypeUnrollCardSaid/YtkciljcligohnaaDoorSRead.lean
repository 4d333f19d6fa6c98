/- The reference's reading of texts: l1Byte, l1Read, l1Parse. -/
import Derived.Test.YtkciljcligohnaaDoorRead
import Derived.Laws.ResultCell
namespace Go.Proofs.YtkciljcligohnaaDoor
open Go.RowKit
set_option linter.unusedVariables false
set_option linter.unusedSimpArgs false

set_option maxHeartbeats 400000 in
theorem l1Byte_any (b : UInt8) (w : World) : Calls Tryd.prog 116 #[.int .u8 b.toNat] w fun e w' => e = .returned (.bool (atomB b)) ∧ w = w' := by
  rw [atomB_int]
  generalize (b.toNat : Int) = c
  go_enter Tryd.func116, Tryd.ntmps116
  go_wp2
  all_goals go_ret
  all_goals (refine ⟨congrArg (fun b => Ending.returned (.bool b)) ?_, rfl⟩; first | rfl | (rw [Bool.eq_iff_iff]; simp; done) | (rw [Bool.eq_iff_iff]; simp; omega))

/-- What l1Read does at a place of a text: o is what is read. -/
def SPost (w : World) (s : ByteArray) (o : Option (Tr × List UInt8)) (e : Ending) (w' : World) : Prop :=
  Below w.heap.size w w' ∧ match o with
    | some (t, r) => ∃ v, e = .returned (.tuple #[v, .int .i64 ((s.size : Int) - (r.length : Int))]) ∧ TAt w' (fun k => w.heap.size ≤ k) t v
    | none => ∃ x A n c, e = .returned (.tuple #[.agg #[.string x, .slice A n c], .int .i64 (-1)])

theorem taken_at {s : ByteArray} {i k : Nat} (hi : i ≤ k) (hk : k ≤ s.size) (h1 : ∀ j (h : j < s.size), i ≤ j → j < k → atomB s[j] = true) (hx : ∀ h : k < s.size, atomB s[k] = false) :
    s.extract i k = St ((s.data.toList.drop i).takeWhile atomB) ∧ ((s.data.toList.drop i).dropWhile atomB).length = s.size - k ∧ ((s.data.toList.drop i).takeWhile atomB).length = k - i := by
  have hsz := size_list s
  have h := takeWhile_len_of (l := s.data.toList.drop i) (k := k - i) (by rw [List.length_drop]; omega) (fun j h hj => by
    rw [List.length_drop] at h
    rw [List.getElem_drop]
    exact h1 (i + j) (by omega) (by omega) (by omega)) (fun h => by
    rw [List.length_drop] at h
    rw [List.getElem_drop]
    have h2 := hx (by omega)
    have h3 : s.data.toList[i + (k - i)]'(by omega) = s[k]'(by omega) := by
      have : ∀ n (hn : n < s.data.toList.length), n = k → s.data.toList[n] = s[k]'(by omega) := fun n hn he => by subst he; rfl
      exact this _ _ (by omega)
    rw [h3]
    exact h2)
  rw [h.1, h.2]
  refine ⟨St_of (by rw [Lib.extract_data]), ?_, ?_⟩
  · rw [List.length_drop, List.length_drop]; omega
  · rw [List.length_take, List.length_drop]; omega

set_option maxHeartbeats 2000000 in
set_option maxRecDepth 100000 in
theorem l1Read_atom (d : Nat) (s : ByteArray) (i : Nat) (x : Int) (w : World) (hs : s.size ≤ 8000) (hx : 0 ≤ x) (hx' : x ≤ 300) (hi : i < s.size) (h0 : s[i] ≠ 40)  :
    Calls Tryd.prog 99 #[.string s, .int .i64 i, .int .i64 x] w (SPost w s (rd d (s.data.toList.drop i))) := by
  have hrd : rd d (s.data.toList.drop i) = if (s.data.toList.drop i).takeWhile atomB = [] then none else some (.mk ((s.data.toList.drop i).takeWhile atomB) [], (s.data.toList.drop i).dropWhile atomB) := by
    unfold rd
    by_cases h : (s.data.toList.drop i).takeWhile atomB = []
    · rw [if_neg (by simp [h]), if_pos h]
      split
      · rename_i d b r hl
        have : b = s[i] := by
          have h1 : (s.data.toList.drop i)[0]? = some b := by rw [hl]; rfl
          rw [List.getElem?_drop, List.getElem?_eq_getElem (by rw [size_list]; omega)] at h1
          simp only [Option.some.injEq] at h1
          exact h1.symm
        rw [if_neg (by rw [this]; exact h0)]
      · rfl
    · rw [if_pos h, if_neg h]
  generalize rd d (s.data.toList.drop i) = o at *
  have HRD := Lib.hid hrd
  clear hrd
  have h6 : ((s[i].toNat : Int) != 40) = true := byte_bne h0
  have h7 : decide (300 < x) = false := by rw [decide_eq_false_iff_not]; omega
  have h8 : decide (s.size ≤ i) = false := by rw [decide_eq_false_iff_not]; omega
  clear h0
  go_enter Tryd.func99, Tryd.ntmps99
  go_wp2
  go_loop [1] (fun n => ∃ k : Nat, i ≤ k ∧ k ≤ s.size ∧ n = .int .i64 k ∧ Hid (∀ j (h : j < s.size), i ≤ j → j < k → atomB s[j] = true)) (fun n => s.size - (intOf n).toNat)
  case atStart => exact ⟨i, Nat.le_refl _, by omega, rfl, fun _ _ h h' => by omega⟩
  case round =>
    obtain ⟨k, hik, hk, rfl, hall⟩ := hrel
    by_cases hat : ∃ h : k < s.size, atomB s[k] = true
    · obtain ⟨hlt, hb⟩ := hat
      have hat := l1Byte_any s[k]
      have Hb := Lib.hid hb
      rw [hb] at hat
      clear hb h6
      go_wp2_with (go_at_call 116; refine (hat _).mono ?_; rintro e w' ⟨rfl, rfl⟩)
      go_round
      case rel => exact ⟨k + 1, by omega, by omega, by go_num, fun j h hi hj => by rcases Nat.lt_succ_iff_lt_or_eq.1 hj with h1 | rfl; exact hall.out j h hi h1; exact Hb.out⟩
      case measure => simp [intOf]; omega
    · have hex : ∀ h : k < s.size, atomB s[k] = false := fun h => by
        cases hb : atomB s[k] with
        | true => exact absurd ⟨h, hb⟩ hat
        | false => rfl
      have HT := Lib.hid (taken_at hik hk hall.out hex)
      clear hat
      by_cases he : (s.data.toList.drop i).takeWhile atomB = []
      · have ho : o = none := by rw [HRD.out, if_pos he]
        subst ho
        have hx : s.extract i k = ⟨#[]⟩ := by rw [HT.out.1, he]
        clear he HRD
        by_cases hlt : k < s.size
        · have hb := hex hlt
          have hat := l1Byte_any s[k]
          rw [hb] at hat
          clear hb hex h6
          go_wp2_with (go_at_call 116; refine (hat _).mono ?_; rintro e w' ⟨rfl, rfl⟩)
          refine bodyPost_ret (v := .tuple #[.agg #[.string ⟨#[]⟩, .slice none 0 0], .int .i64 (-1)]) (by simp [results, Tryd.results99, go_sem]) rfl ?_
          exact ⟨up_alloc (up1 w _) _, ⟨#[]⟩, none, 0, 0, rfl⟩
        · clear hex h6
          go_wp2
          refine bodyPost_ret (v := .tuple #[.agg #[.string ⟨#[]⟩, .slice none 0 0], .int .i64 (-1)]) (by simp [results, Tryd.results99, go_sem]) rfl ?_
          exact ⟨up_alloc (up1 w _) _, ⟨#[]⟩, none, 0, 0, rfl⟩
      · obtain ⟨hx1, hx2⟩ := nonempty_toList (s := s.extract i k) (by rw [HT.out.1]; exact he)
        have ho : o = some (.mk ((s.data.toList.drop i).takeWhile atomB) [], (s.data.toList.drop i).dropWhile atomB) := by rw [HRD.out, if_neg he]
        subst ho
        clear he HRD
        by_cases hlt : k < s.size
        · have hb := hex hlt
          have hat := l1Byte_any s[k]
          rw [hb] at hat
          clear hb hex h6
          go_wp2_with (go_at_call 116; refine (hat _).mono ?_; rintro e w' ⟨rfl, rfl⟩)
          refine bodyPost_ret (v := .tuple #[.agg #[.string (s.extract i k), .slice none 0 0], .int .i64 k]) (by simp [results, Tryd.results99, go_sem]) rfl ?_
          have hl := HT.out.2.1
          refine ⟨up_alloc (up1 w _) _, _, ?_, none, 0, rfl, Nat.le_refl _, .nil _⟩
          rw [HT.out.1, show ((s.size : Int) - ((((s.data.toList.drop i).dropWhile atomB).length : Nat) : Int)) = k from by omega]
          rfl
        · clear hex h6
          go_wp2
          refine bodyPost_ret (v := .tuple #[.agg #[.string (s.extract i k), .slice none 0 0], .int .i64 k]) (by simp [results, Tryd.results99, go_sem]) rfl ?_
          have hl := HT.out.2.1
          refine ⟨up_alloc (up1 w _) _, _, ?_, none, 0, rfl, Nat.le_refl _, .nil _⟩
          rw [HT.out.1, show ((s.size : Int) - ((((s.data.toList.drop i).dropWhile atomB).length : Nat) : Int)) = k from by omega]
          rfl

/-- A row of structs as values, two cells each. -/
inductive Trees (w : World) (ok : Nat → Prop) : List Tr → List Value → Prop where
  | nil : Trees w ok [] []
  | cons (s : List UInt8) (ps : List Tr) (A : Option Addr) (c : Nat) (ts : List Tr) (cs : List Value) (hc : ps.length ≤ c) (hp : TRow w ok ps A) (hr : Trees w ok ts cs) : Trees w ok (.mk s ps :: ts) (.string (St s) :: .slice A ps.length c :: cs)

theorem Trees.move {w w1 : World} {ok ok' : Nat → Prop} (hb : ∀ k, k < w.heap.size → ok k → ok' k ∧ w1.heap[k]? = w.heap[k]?) {ts : List Tr} {cs : List Value} (h : Trees w ok ts cs) : Trees w1 ok' ts cs := by
  induction h with
  | nil => exact .nil
  | cons s ps A c ts cs hc hp _ ih => exact .cons s ps A c ts cs hc (hp.move hb) ih
theorem Trees.snoc {w : World} {ok : Nat → Prop} {ts : List Tr} {cs : List Value} (h : Trees w ok ts cs) {s : List UInt8} {ps : List Tr} {A : Option Addr} {c : Nat} (hc : ps.length ≤ c) (hp : TRow w ok ps A) : Trees w ok (ts ++ [.mk s ps]) (cs ++ [.string (St s), .slice A ps.length c]) := by
  induction h with
  | nil => exact .cons s ps A c [] [] hc hp .nil
  | cons s' ps' A' c' ts cs hc' hp' _ ih => exact .cons s' ps' A' c' _ _ hc' hp' ih
theorem Trees.length {w : World} {ok : Nat → Prop} {ts : List Tr} {cs : List Value} (h : Trees w ok ts cs) : cs.length = ts.length * 2 := by
  induction h with
  | nil => rfl
  | cons s ps A c ts cs hc hp _ ih => simp [ih]; omega
theorem Trees.row {w : World} {ok : Nat → Prop} {b : Nat} {cur : Array Value} (hb : w.heap[b]? = some (.cells cur 43 (0, 0))) (hok : ok b) {ts : List Tr} {cs : List Value} (h : Trees w ok ts cs) :
    ∀ o, (∀ i u, cs[i]? = some u → cur[o + i]? = some u) → TRow w ok ts (some ⟨b, o, none⟩) := by
  induction h with
  | nil => exact fun _ _ => .nil _
  | cons s ps A c ts cs hc hp _ ih =>
    intro o hcur
    exact .cons b o s ps ts A c cur hok hb (hcur 0 _ rfl) (hcur 1 _ rfl) hc hp (ih (o + 2) (fun i u hu => by have := hcur (i + 2) u (by simpa using hu); rw [show o + 2 + i = o + (i + 2) from by omega]; exact this))
/-- A row that is owned reads as a row. -/
theorem Trees.own {w : World} {ok : Nat → Prop} {base n : Nat} {v : Value} {ts : List Tr} {cs : List Value} (h : Trees w ok ts cs) (ho : w.ownsRow base 43 2 v n cs) (hn : n = ts.length) (hok : ∀ g, v.ownBlock = some g → ok g) :
    ∃ A c, v = .slice A ts.length c ∧ ts.length ≤ c ∧ TRow w ok ts A := by
  subst hn
  rcases ho.2 with ⟨rfl, h0⟩ | ⟨g, cap, cur, rfl, hg, hh, hc, _, _, htk⟩
  · have : ts = [] := List.length_eq_zero_iff.1 h0
    subst this
    exact ⟨none, 0, rfl, Nat.le_refl _, .nil _⟩
  · refine ⟨_, cap, rfl, hc, Trees.row hh (hok g rfl) h 0 (fun i u hu => ?_)⟩
    have : (cur.toList.take (ts.length * 2))[i]? = some u := by rw [htk]; exact hu
    rw [List.getElem?_take] at this
    split at this
    · simpa using this
    · cases this

/-- What holds at each round's head while the parts are read. -/
structure SRel (w : World) (acc : List Tr) (v : Value) (wr : World) : Prop where
  res : wr.heap[w.heap.size]? = some (.cells #[.string (St []), .slice none 0 0] 43 (0, 0))
  out : wr.heap[w.heap.size + 1]? = some (.cells #[.string (St []), v] 43 (0, 0))
  own : ∃ cs, wr.ownsRow (w.heap.size + 2) 43 2 v acc.length cs ∧ Trees wr (fun k => w.heap.size + 1 < k ∧ some k ≠ v.ownBlock) acc cs
  bel : Below w.heap.size w wr

theorem SRel.start (w : World) : SRel w [] (.slice none 0 0) ((w.alloc (.cells #[.string (St []), .slice none 0 0] 43)).alloc (.cells #[.string (St []), .slice none 0 0] 43)) :=
  ⟨block_alloc (block_new w _) _, by have := block_new (w.alloc (.cells #[.string (St []), .slice none 0 0] 43)) (.cells #[.string (St []), .slice none 0 0] 43); simpa using this, ⟨[], World.ownsRow_nil _ _ _ _, .nil⟩, up_alloc (up1 w _) _⟩

theorem SRel.up {w wr w1 : World} {acc : List Tr} {v : Value} (h : SRel w acc v wr) (hb : Below wr.heap.size wr w1) : SRel w acc v w1 := by
  obtain ⟨hres, hout, ⟨ps, ho, hp⟩, hbel⟩ := h
  exact ⟨block_up hb hres, block_up hb hout, ⟨ps, own_up ho hb, hp.move fun k hk ho => ⟨ho, hb.block k hk⟩⟩, below_then hbel hbel.size hb⟩

theorem own_form {w : World} {base n : Nat} {e : TypeId} {size : Nat} {v : Value} {xs : List Value} (h : w.ownsRow base e size v n xs) : ∃ A c, v = .slice A n c := by
  rcases h.2 with ⟨rfl, rfl⟩ | ⟨g, cap, cur, rfl, _⟩
  · exact ⟨_, _, rfl⟩
  · exact ⟨_, _, rfl⟩
theorem SRel.facts {w wr : World} {acc : List Tr} {v : Value} (h : SRel w acc v wr) :
    wr.cell? ⟨w.heap.size, 0, none⟩ = some (.string (St [])) ∧ wr.cell? ⟨w.heap.size, 1, none⟩ = some (.slice none 0 0) ∧ wr.cell? ⟨w.heap.size + 1, 0, none⟩ = some (.string (St [])) ∧ wr.cell? ⟨w.heap.size + 1, 1, none⟩ = some v ∧
    wr.frozen? ⟨w.heap.size, 0, none⟩ = false ∧ wr.frozen? ⟨w.heap.size, 1, none⟩ = false ∧ wr.frozen? ⟨w.heap.size + 1, 0, none⟩ = false ∧ wr.frozen? ⟨w.heap.size + 1, 1, none⟩ = false ∧ w.heap.size < wr.heap.size ∧ w.heap.size + 1 < wr.heap.size :=
  ⟨block_cell h.res 0, block_cell h.res 1, block_cell h.out 0, block_cell h.out 1, block_free h.res 0, block_free h.res 1, block_free h.out 0, block_free h.out 1, lt_of_block h.res, lt_of_block h.out⟩

theorem SRel.step {w wr w2 : World} {acc : List Tr} {v : Value} (h : SRel w acc v wr) {s : List UInt8} {qs : List Tr} {A : Option Addr} {c g cap : Nat} {cs : List Value}
    (ho : wr.ownsRow (w.heap.size + 2) 43 2 v acc.length cs) (hcs : Trees wr (fun k => w.heap.size + 1 < k ∧ some k ≠ v.ownBlock) acc cs) (hc : qs.length ≤ c)
    (ht : TRow wr (fun k => w.heap.size + 1 < k ∧ some k ≠ v.ownBlock) qs A) (hown : w2.ownsRow (w.heap.size + 2) 43 2 (.slice (some ⟨g, 0, none⟩) (acc.length + 1) cap) (acc.length + 1) (cs ++ [.string (St s), .slice A qs.length c]))
    (hgrow : wr.grownBy w2 v.ownBlock) (hat : v.ownBlock = some g ∨ g = wr.heap.size) :
    SRel w (acc ++ [.mk s qs]) (.slice (some ⟨g, 0, none⟩) (acc.length + 1) cap) (w2.setCell ⟨w.heap.size + 1, 1, none⟩ (.slice (some ⟨g, 0, none⟩) (acc.length + 1) cap)) ∧
      w2.heap[w.heap.size + 1]? = some (.cells #[.string (St []), v] 43 (0, 0)) ∧ w2.heap[w.heap.size]? = some (.cells #[.string (St []), .slice none 0 0] 43 (0, 0)) := by
  have hlt := lt_of_block h.out
  have hne : some (w.heap.size + 1) ≠ v.ownBlock := fun hv => by have := (ho.lt _ hv.symm).1; omega
  have hne0 : some w.heap.size ≠ v.ownBlock := fun hv => by have := (ho.lt _ hv.symm).1; omega
  have hb2 : ∀ k, k < wr.heap.size → some k ≠ v.ownBlock → w2.heap[k]? = wr.heap[k]? := fun k hk hk' => hgrow.block k hk hk'
  have hblk2 : w2.heap[w.heap.size + 1]? = some (.cells #[.string (St []), v] 43 (0, 0)) := (hb2 _ hlt hne).trans h.out
  have hmove : ∀ k, k < wr.heap.size → (w.heap.size + 1 < k ∧ some k ≠ v.ownBlock) → (w.heap.size + 1 < k ∧ some k ≠ (Value.slice (some ⟨g, 0, none⟩) (acc.length + 1) cap).ownBlock) ∧ (w2.setCell ⟨w.heap.size + 1, 1, none⟩ (.slice (some ⟨g, 0, none⟩) (acc.length + 1) cap)).heap[k]? = wr.heap[k]? := fun k hk ⟨h1, h2⟩ => by
    refine ⟨⟨h1, fun hkg => ?_⟩, ?_⟩
    · have hkg : k = g := by simpa [Value.ownBlock] using hkg
      rcases hat with hat | hat
      · exact h2 (by rw [hat, hkg])
      · omega
    · rw [Below.heap_setCell _ _ _ _ (by show k ≠ w.heap.size + 1; omega)]
      exact hb2 k hk h2
  refine ⟨⟨?_, ?_, ⟨cs ++ [.string (St s), .slice A qs.length c], ?_, ?_⟩, ?_⟩, hblk2, (hb2 _ (by omega) hne0).trans h.res⟩
  · rw [Below.heap_setCell _ _ _ _ (by show w.heap.size ≠ w.heap.size + 1; omega), hb2 _ (by omega) hne0]
    exact h.res
  · simp only [World.setCell, Array.getElem?_modify, if_true, hblk2]
    rfl
  · rw [List.length_append]
    exact ownsRow_setCell_below hown (by show w.heap.size + 1 < w.heap.size + 2; omega) _
  · exact (hcs.move hmove).snoc hc (ht.move hmove)
  · exact Below.setCell (Below.grown h.bel hgrow h.bel.size (fun k hk => by have := (ho.lt _ hk).1; omega)) (by show w.heap.size ≤ w.heap.size + 1; omega) _

theorem SRel.done {w wr w3 : World} {acc : List Tr} {v : Value} (h : SRel w acc v wr) (hb : ∀ k, w.heap.size + 1 < k → w3.heap[k]? = wr.heap[k]?) : TAt w3 (fun k => w.heap.size ≤ k) (.mk [] acc) (.agg #[.string (St []), v]) := by
  obtain ⟨cs, ho, hcs⟩ := h.own
  obtain ⟨A, c, rfl, hc, hr⟩ := Trees.own (ok := fun k => w.heap.size + 1 < k) (hcs.move fun k _ hk => ⟨hk.1, rfl⟩) ho rfl (fun g hg => by have := (ho.lt _ hg).1; omega)
  exact ⟨A, c, rfl, hc, hr.move fun k _ hk => ⟨by omega, hb k hk⟩⟩

theorem rdLoop_suffix {f : List UInt8 → Option (Tr × List UInt8)} (hf : ∀ l t r, f l = some (t, r) → r <:+ l) : ∀ (n : Nat) (acc : List Tr) (l : List UInt8) (t : Tr) (r : List UInt8), rdLoop f n acc l = some (t, r) → r <:+ l
  | 0, _, _, _, _, h => by simp [rdLoop] at h
  | n + 1, acc, l, t, r, h => by
    unfold rdLoop at h
    split at h
    · rename_i t' b r' hfl
      have h1 := hf _ _ _ hfl
      have h2 : r' <:+ l := (List.suffix_cons b r').trans h1
      split at h
      · simp only [Option.some.injEq, Prod.mk.injEq] at h
        obtain ⟨_, rfl⟩ := h
        exact h2
      · split at h
        · exact (rdLoop_suffix hf n _ _ _ _ h).trans h2
        · simp at h
    · simp at h

theorem rd_suffix : ∀ (d : Nat) (l : List UInt8) (t : Tr) (r : List UInt8), rd d l = some (t, r) → r <:+ l
  | 0, l, t, r, h => by
    unfold rd at h
    split at h
    · simp only [Option.some.injEq, Prod.mk.injEq] at h
      obtain ⟨_, rfl⟩ := h
      exact List.dropWhile_suffix _
    · simp at h
  | d + 1, l, t, r, h => by
    unfold rd at h
    split at h
    · simp only [Option.some.injEq, Prod.mk.injEq] at h
      obtain ⟨_, rfl⟩ := h
      exact List.dropWhile_suffix _
    · cases l with
      | nil => simp at h
      | cons b r' =>
        simp only at h
        split at h
        · exact (rdLoop_suffix (rd_suffix d) _ _ _ _ _ h).trans (List.suffix_cons b r')
        · simp at h

/-- What is left is the text from a place on. -/
theorem suffix_drop {L r : List UInt8} {i : Nat} (h : r <:+ L.drop i) : r = L.drop (L.length - r.length) := by
  have h1 : r <:+ L := h.trans (List.drop_suffix i L)
  exact List.suffix_iff_eq_drop.1 h1

theorem Tryd.infoTree : (Tryd.prog.info? 43).map (fun i => (i.zero, i.size, i.bytes)) = some (some (.agg #[.string ⟨#[]⟩, .slice none 0 0]), 2, 40) := by kernel_rfl

set_option maxHeartbeats 4000000 in
set_option maxRecDepth 100000 in
theorem l1Read_end (s : ByteArray) (i : Nat) (x : Int) (w : World) (hx : 0 ≤ x) (h : 300 < x ∨ s.size ≤ i) (hs : s.size ≤ 8000) :
    Calls Tryd.prog 99 #[.string s, .int .i64 i, .int .i64 x] w (SPost w s none) := by
  by_cases hx3 : 300 < x
  · have h7 : decide (300 < x) = true := by simpa using hx3
    clear h
    go_enter Tryd.func99, Tryd.ntmps99
    go_wp2
    refine bodyPost_ret (v := .tuple #[.agg #[.string ⟨#[]⟩, .slice none 0 0], .int .i64 (-1)]) (by simp [results, Tryd.results99, go_sem]) rfl ?_
    exact ⟨up_alloc (up1 w _) _, ⟨#[]⟩, none, 0, 0, rfl⟩
  · have h7 : decide (300 < x) = false := by simpa using hx3
    have hi : s.size ≤ i := by rcases h with h | h; exact absurd h hx3; exact h
    have h8 : decide (s.size ≤ i) = true := by simpa using hi
    clear h
    go_enter Tryd.func99, Tryd.ntmps99
    go_wp2
    refine bodyPost_ret (v := .tuple #[.agg #[.string ⟨#[]⟩, .slice none 0 0], .int .i64 (-1)]) (by simp [results, Tryd.results99, go_sem]) rfl ?_
    exact ⟨up_alloc (up1 w _) _, ⟨#[]⟩, none, 0, 0, rfl⟩

set_option maxHeartbeats 4000000 in
set_option maxRecDepth 100000 in
theorem l1Read_list (s : ByteArray) (i : Nat) (x : Int) (w : World) (hs : s.size ≤ 8000) (hx0 : 0 ≤ x) (hx : x ≤ 300) (hi : i < s.size) (h0 : s[i] = 40) (f : List UInt8 → Option (Tr × List UInt8)) (hf : ∀ l t r, f l = some (t, r) → r <:+ l ∧ r.length < l.length)
    (ih : ∀ (i : Nat) (w : World), i ≤ s.size → Calls Tryd.prog 99 #[.string s, .int .i64 i, .int .i64 (x + 1)] w (SPost w s (f (s.data.toList.drop i))))
    (o : Option (Tr × List UInt8)) (ho : Hid (rdLoop f (s.size + 1) [] (s.data.toList.drop (i + 1)) = o)) :
    Calls Tryd.prog 99 #[.string s, .int .i64 i, .int .i64 x] w (SPost w s o) := by
  have h6 : ((s[i].toNat : Int) != 40) = false := byte_beq h0
  have h7 : decide (300 < x) = false := by rw [decide_eq_false_iff_not]; omega
  have h8 : decide (s.size ≤ i) = false := by rw [decide_eq_false_iff_not]; omega
  clear h0
  obtain ⟨i0, hi0, hz0, hz1, hz2⟩ := info_parts Tryd.infoTree
  have IH := Lib.hid ih
  have HF := Lib.hid hf
  clear ih hf
  go_enter Tryd.func99, Tryd.ntmps99
  go_wp2
  go_loopg [1] (s.size - i) (fun n q wr => ∃ (acc : List Tr) (j : Nat) (v : Value), q = .int .i64 j ∧ j < s.size ∧ SRel w acc v wr ∧ s.size - j ≤ n ∧ acc.length ≤ j ∧ (∃ m, s.size - j < m ∧ Hid (rdLoop f m acc (s.data.toList.drop (j + 1)) = o)))
  case atStart => exact ⟨[], i, _, rfl, hi, SRel.start w, Nat.le_refl _, Nat.zero_le _, _, by omega, ho⟩
  case round =>
    obtain ⟨acc, j, v, rfl, hj, hR, hjn, haj, m, hm, HE⟩ := hrel
    clear ho h6 h7 h8
    have hcall : Calls Tryd.prog 99 #[.string s, .int .i64 ((j : Int) + 1), .int .i64 (x + 1)] wr (SPost wr s (f (s.data.toList.drop (j + 1)))) := IH.out (j + 1) wr (by omega)
    clear IH
    obtain ⟨m, rfl⟩ : ∃ m', m = m' + 1 := ⟨m - 1, by omega⟩
    have hE := HE.out
    clear HE
    unfold rdLoop at hE
    obtain ⟨Av, cv, rfl⟩ : ∃ A c, v = .slice A acc.length c := by obtain ⟨cs, ho, _⟩ := hR.own; exact own_form ho
    have HR := Lib.hid hR
    clear hR
    cases hrd : f (s.data.toList.drop (j + 1)) with
    | none =>
      rw [hrd] at hE hcall
      replace hE : none = o := hE
      subst hE
      replace hcall : Calls Tryd.prog 99 #[.string s, .int .i64 ((j : Int) + 1), .int .i64 (x + 1)] wr (fun e w1 => Below wr.heap.size wr w1 ∧ ∃ x A n c, e = .returned (.tuple #[.agg #[.string x, .slice A n c], .int .i64 (-1)])) := hcall
      clear hrd
      go_wp2_with (go_at_call 99; refine hcall.mono ?_; rintro e w1 ⟨hb1, y, A, n, c, rfl⟩; have HR1 := Lib.hid (HR.out.up hb1); obtain ⟨c0, c1, c2, c3, f0, f1, f2, f3, l0, l1⟩ := HR1.out.facts; clear hb1)
      refine bodyPost_ret (v := .tuple #[.agg #[.string (St []), .slice Av acc.length cv], .int .i64 (-1)]) (by simp [results, Tryd.results99, go_sem, c0, c1, c2, c3, l0, l1]) rfl ?_
      exact ⟨by repeat (first | exact HR1.out.bel | refine up_alloc ?_ _ | refine set0 ?_ (by omega)), _, _, _, _, rfl⟩
    | some tr =>
      obtain ⟨⟨q0, qs⟩, q⟩ := tr
      rw [hrd] at hE hcall
      obtain ⟨hsuf, hlen⟩ := HF.out _ _ _ hrd
      clear hrd
      have hq := suffix_drop hsuf
      rw [size_list] at hq
      rw [List.length_drop, size_list] at hlen
      obtain ⟨cs, ho, hcs⟩ := HR.out.own
      have HO := Lib.hid ho
      have HCS := Lib.hid hcs
      have hsz0 := HR.out.facts.2.2.2.2.2.2.2.2.2
      clear ho hcs hsuf
      replace hcall : Calls Tryd.prog 99 #[.string s, .int .i64 ((j : Int) + 1), .int .i64 (x + 1)] wr (fun e w1 => Below wr.heap.size wr w1 ∧ ∃ A c, e = .returned (.tuple #[.agg #[.string (St q0), .slice A qs.length c], .int .i64 ((s.size : Int) - (q.length : Int))]) ∧ qs.length ≤ c ∧ TRow w1 (fun k => wr.heap.size ≤ k) qs A) := hcall.mono fun e w1 h => by
        obtain ⟨hb, v, he, A, c, rfl, hc, hr⟩ := h
        exact ⟨hb, A, c, he, hc, hr⟩
      cases q with
      | nil =>
        replace hE : none = o := hE
        subst hE
        have hn : ((s.size : Int) - ((([] : List UInt8).length : Nat) : Int)) = (s.size : Int) := by simp
        rw [hn] at hcall
        have k1 : decide ((s.size : Int) < 0) = false := by rw [decide_eq_false_iff_not]; omega
        clear hn hq
        go_wp2_with (go_at_call 99; refine hcall.mono ?_; rintro e w1 ⟨hb1, A, c, rfl, hcq, hp⟩; have HR1 := Lib.hid (HR.out.up hb1); obtain ⟨c0, c1, c2, c3, f0, f1, f2, f3, l0, l1⟩ := HR1.out.facts; clear hb1)
        refine bodyPost_ret (v := .tuple #[.agg #[.string (St []), .slice Av acc.length cv], .int .i64 (-1)]) (by simp [results, Tryd.results99, go_sem, c0, c1, c2, c3, l0, l1]) rfl ?_
        exact ⟨by repeat (first | exact HR1.out.bel | refine up_alloc ?_ _ | refine set0 ?_ (by omega)), _, _, _, _, rfl⟩
      | cons b q =>
        simp only [List.length_cons] at hq hlen
        obtain ⟨J, hJ⟩ : ∃ J, J = s.size - (q.length + 1) := ⟨_, rfl⟩
        have hJ1 : J < s.size := by omega
        have hJ2 : j < J := by omega
        rw [← hJ] at hq
        have hJb : s[J] = b := by
          have h1 : (s.data.toList.drop J)[0]? = some b := by rw [← hq]; rfl
          rw [List.getElem?_drop, List.getElem?_eq_getElem (by rw [size_list]; omega)] at h1
          simp only [Option.some.injEq] at h1
          exact h1
        have hJq : s.data.toList.drop (J + 1) = q := by
          have h1 : (s.data.toList.drop J).drop 1 = q := by rw [← hq]; rfl
          rw [List.drop_drop] at h1
          exact h1
        have HJQ := Lib.hid hJq
        have hn : ((s.size : Int) - (((b :: q).length : Nat) : Int)) = (J : Int) := by simp only [List.length_cons]; omega
        rw [hn] at hcall
        have HJ := Lib.hid hJ
        clear hn hq hJq hJ hlen
        have k1 : decide ((J : Int) < 0) = false := by rw [decide_eq_false_iff_not]; omega
        have k2 : decide (s.size ≤ J) = false := by rw [decide_eq_false_iff_not]; omega
        replace hE : (if b = 41 then some (Tr.mk [] (acc ++ [.mk q0 qs]), q) else if b = 32 then rdLoop f m (acc ++ [.mk q0 qs]) q else none) = o := hE
        by_cases hb41 : b = 41
        · rw [if_pos hb41] at hE
          subst hE
          have hbt : ((b.toNat : Int) == 41) = true := byte_eq hb41
          clear hb41
          go_wp2_with (first | (go_at_call 99; refine hcall.mono ?_; rintro e w1 ⟨hb1, A, c, rfl, hcq, hp⟩; have HR1 := Lib.hid (HR.out.up hb1); obtain ⟨c0, c1, c2, c3, f0, f1, f2, f3, l0, l1⟩ := HR1.out.facts; have HP : Hid (TRow w1 (fun k => wr.heap.size ≤ k) qs A) := hp; have HB1 := Lib.hid hb1; clear hb1 hp) | (at_builtin; refine wpList_append_lies _ rfl _ _ 41 rfl (w.heap.size + 2) 43 i0 _ 2 40 Tryd.underlying41 hi0 hz0 hz1 hz2 rfl (by decide) (.slice Av acc.length cv) acc.length cs rfl (own_up HO.out (up_trans HB1.out (up_alloc (up1 _ _) _))) ⟨w1.heap.size + 1, 0, none⟩ 1 1 [.string (St q0), .slice A qs.length c] rfl rfl (World.news_of_block (cs := #[.string (St q0), .slice A qs.length c]) (t := 43) (fr := (0, 0)) (by have := block_new (w1.alloc (.cells #[.string (St q0), .slice A qs.length c] 43)) (.cells #[.string (St q0), .slice A qs.length c] 43); simpa using this)) (by simp [Value.oneCell']) (by decide) (by unfold maxLen; omega) (by omega) (by simp; omega) (w1.heap.size + 2) (by simp) ?_; intro g' cap w2 hown hgrow hat hlt; have HS := Lib.hid (SRel.step (HR1.out.up (up_alloc (up1 _ _) _)) (own_up HO.out (up_trans HB1.out (up_alloc (up1 _ _) _))) (HCS.out.move fun k hk ho => ⟨ho, (up_trans HB1.out (up_alloc (up1 _ _) _)).block k hk⟩) hcq (HP.out.move fun k hk hk' => ⟨⟨by omega, fun hv => by have := (HO.out.lt _ hv.symm).2; omega⟩, (up_alloc (up1 _ _) _ : Below _ _ _).block k hk⟩) hown hgrow (by simpa using hat)); have d1 : w2.cell? ⟨w.heap.size + 1, 1, none⟩ = some (.slice Av acc.length cv) := block_cell HS.out.2.1 1; have d0 : w2.cell? ⟨w.heap.size + 1, 0, none⟩ = some (.string (St [])) := block_cell HS.out.2.1 0; have d2 := block_free HS.out.2.1 1; have e0 : w2.cell? ⟨w.heap.size, 0, none⟩ = some (.string (St [])) := block_cell HS.out.2.2 0; have e1 : w2.cell? ⟨w.heap.size, 1, none⟩ = some (.slice none 0 0) := block_cell HS.out.2.2 1; have e2 := block_free HS.out.2.2 0; have e3 := block_free HS.out.2.2 1; clear hown hgrow hat hlt))
          refine bodyPost_ret (v := .tuple #[.agg #[.string (St []), .slice (some ⟨g', 0, none⟩) (acc.length + 1) cap], .int .i64 ((J : Int) + 1)]) (by simp [results, Tryd.results99, go_sem, d0, d1, e0, e1]) rfl ?_
          refine ⟨?_, _, ?_, HS.out.1.done (fun k hk => by rw [Below.heap_setCell _ ⟨w.heap.size, 1, none⟩ _ k (by show k ≠ w.heap.size; omega), Below.heap_setCell _ ⟨w.heap.size, 0, none⟩ _ k (by show k ≠ w.heap.size; omega)])⟩
          · repeat (first | exact HS.out.1.bel | refine set0 ?_ (by omega))
          · rw [show ((s.size : Int) - (q.length : Int)) = (J : Int) + 1 from by have := HJ.out; omega]
        · rw [if_neg hb41] at hE
          have hbt : ((b.toNat : Int) == 41) = false := byte_ne hb41
          clear hb41
          by_cases hb32 : b = 32
          · rw [if_pos hb32] at hE
            have HE := Lib.hid hE
            clear hE
            have hbu : ((b.toNat : Int) != 32) = false := byte_beq hb32
            clear hb32
            go_wp2_with (first | (go_at_call 99; refine hcall.mono ?_; rintro e w1 ⟨hb1, A, c, rfl, hcq, hp⟩; have HR1 := Lib.hid (HR.out.up hb1); obtain ⟨c0, c1, c2, c3, f0, f1, f2, f3, l0, l1⟩ := HR1.out.facts; have HP : Hid (TRow w1 (fun k => wr.heap.size ≤ k) qs A) := hp; have HB1 := Lib.hid hb1; clear hb1 hp) | (at_builtin; refine wpList_append_lies _ rfl _ _ 41 rfl (w.heap.size + 2) 43 i0 _ 2 40 Tryd.underlying41 hi0 hz0 hz1 hz2 rfl (by decide) (.slice Av acc.length cv) acc.length cs rfl (own_up HO.out (up_trans HB1.out (up_alloc (up1 _ _) _))) ⟨w1.heap.size + 1, 0, none⟩ 1 1 [.string (St q0), .slice A qs.length c] rfl rfl (World.news_of_block (cs := #[.string (St q0), .slice A qs.length c]) (t := 43) (fr := (0, 0)) (by have := block_new (w1.alloc (.cells #[.string (St q0), .slice A qs.length c] 43)) (.cells #[.string (St q0), .slice A qs.length c] 43); simpa using this)) (by simp [Value.oneCell']) (by decide) (by unfold maxLen; omega) (by omega) (by simp; omega) (w1.heap.size + 2) (by simp) ?_; intro g' cap w2 hown hgrow hat hlt; have HS := Lib.hid (SRel.step (HR1.out.up (up_alloc (up1 _ _) _)) (own_up HO.out (up_trans HB1.out (up_alloc (up1 _ _) _))) (HCS.out.move fun k hk ho => ⟨ho, (up_trans HB1.out (up_alloc (up1 _ _) _)).block k hk⟩) hcq (HP.out.move fun k hk hk' => ⟨⟨by omega, fun hv => by have := (HO.out.lt _ hv.symm).2; omega⟩, (up_alloc (up1 _ _) _ : Below _ _ _).block k hk⟩) hown hgrow (by simpa using hat)); have d1 : w2.cell? ⟨w.heap.size + 1, 1, none⟩ = some (.slice Av acc.length cv) := block_cell HS.out.2.1 1; have d0 : w2.cell? ⟨w.heap.size + 1, 0, none⟩ = some (.string (St [])) := block_cell HS.out.2.1 0; have d2 := block_free HS.out.2.1 1; have e0 : w2.cell? ⟨w.heap.size, 0, none⟩ = some (.string (St [])) := block_cell HS.out.2.2 0; have e1 : w2.cell? ⟨w.heap.size, 1, none⟩ = some (.slice none 0 0) := block_cell HS.out.2.2 1; have e2 := block_free HS.out.2.2 0; have e3 := block_free HS.out.2.2 1; clear hown hgrow hat hlt))
            go_roundg (s.size - J)
            case measure => omega
            case rel => exact ⟨acc ++ [.mk q0 qs], J, _, rfl, hJ1, HS.out.1, Nat.le_refl _, by simp; omega, m, by omega, by rw [HJQ.out]; exact HE.out⟩
          · rw [if_neg hb32] at hE
            subst hE
            have hbu : ((b.toNat : Int) != 32) = true := byte_bne hb32
            clear hb32
            go_wp2_with (first | (go_at_call 99; refine hcall.mono ?_; rintro e w1 ⟨hb1, A, c, rfl, hcq, hp⟩; have HR1 := Lib.hid (HR.out.up hb1); obtain ⟨c0, c1, c2, c3, f0, f1, f2, f3, l0, l1⟩ := HR1.out.facts; have HP : Hid (TRow w1 (fun k => wr.heap.size ≤ k) qs A) := hp; have HB1 := Lib.hid hb1; clear hb1 hp) | (at_builtin; refine wpList_append_lies _ rfl _ _ 41 rfl (w.heap.size + 2) 43 i0 _ 2 40 Tryd.underlying41 hi0 hz0 hz1 hz2 rfl (by decide) (.slice Av acc.length cv) acc.length cs rfl (own_up HO.out (up_trans HB1.out (up_alloc (up1 _ _) _))) ⟨w1.heap.size + 1, 0, none⟩ 1 1 [.string (St q0), .slice A qs.length c] rfl rfl (World.news_of_block (cs := #[.string (St q0), .slice A qs.length c]) (t := 43) (fr := (0, 0)) (by have := block_new (w1.alloc (.cells #[.string (St q0), .slice A qs.length c] 43)) (.cells #[.string (St q0), .slice A qs.length c] 43); simpa using this)) (by simp [Value.oneCell']) (by decide) (by unfold maxLen; omega) (by omega) (by simp; omega) (w1.heap.size + 2) (by simp) ?_; intro g' cap w2 hown hgrow hat hlt; have HS := Lib.hid (SRel.step (HR1.out.up (up_alloc (up1 _ _) _)) (own_up HO.out (up_trans HB1.out (up_alloc (up1 _ _) _))) (HCS.out.move fun k hk ho => ⟨ho, (up_trans HB1.out (up_alloc (up1 _ _) _)).block k hk⟩) hcq (HP.out.move fun k hk hk' => ⟨⟨by omega, fun hv => by have := (HO.out.lt _ hv.symm).2; omega⟩, (up_alloc (up1 _ _) _ : Below _ _ _).block k hk⟩) hown hgrow (by simpa using hat)); have d1 : w2.cell? ⟨w.heap.size + 1, 1, none⟩ = some (.slice Av acc.length cv) := block_cell HS.out.2.1 1; have d0 : w2.cell? ⟨w.heap.size + 1, 0, none⟩ = some (.string (St [])) := block_cell HS.out.2.1 0; have d2 := block_free HS.out.2.1 1; have e0 : w2.cell? ⟨w.heap.size, 0, none⟩ = some (.string (St [])) := block_cell HS.out.2.2 0; have e1 : w2.cell? ⟨w.heap.size, 1, none⟩ = some (.slice none 0 0) := block_cell HS.out.2.2 1; have e2 := block_free HS.out.2.2 0; have e3 := block_free HS.out.2.2 1; clear hown hgrow hat hlt))
            refine bodyPost_ret (v := .tuple #[.agg #[.string (St []), .slice (some ⟨g', 0, none⟩) (acc.length + 1) cap], .int .i64 (-1)]) (by simp [results, Tryd.results99, go_sem, d0, d1, e0, e1]) rfl ?_
            exact ⟨by repeat (first | exact HS.out.1.bel | refine set0 ?_ (by omega)), _, _, _, _, rfl⟩

theorem rdLoop_fuel {f : List UInt8 → Option (Tr × List UInt8)} (hf : ∀ l t r, f l = some (t, r) → r.length < l.length) : ∀ (n m : Nat) (acc : List Tr) (l : List UInt8), l.length < n → l.length < m → rdLoop f n acc l = rdLoop f m acc l
  | 0, _, _, _, h, _ => absurd h (Nat.not_lt_zero _)
  | _ + 1, 0, _, _, _, h => absurd h (Nat.not_lt_zero _)
  | n + 1, m + 1, acc, l, hn, hm => by
    unfold rdLoop
    split
    · rename_i t b r hfl
      have := hf _ _ _ hfl
      simp only [List.length_cons] at this
      rw [rdLoop_fuel hf n m _ r (by omega) (by omega)]
    · rfl

theorem l1Read_any : ∀ (d : Nat) (s : ByteArray) (i : Nat) (x : Int) (w : World), d ≤ 300 → s.size ≤ 8000 → x + d ≤ 300 → 300 ≤ x + d → i ≤ s.size →
    Calls Tryd.prog 99 #[.string s, .int .i64 i, .int .i64 x] w (SPost w s (rd d (s.data.toList.drop i)))
  | d, s, i, x, w, hd, hs, hx, hx', hi => by
    by_cases hlt : i < s.size
    · by_cases h40 : s[i] = 40
      · have hl : s.data.toList.drop i = 40 :: s.data.toList.drop (i + 1) := by
          rw [List.drop_eq_getElem_cons (by rw [size_list]; omega)]
          exact congrArg (fun b => b :: s.data.toList.drop (i + 1)) h40
        have hlen : (s.data.toList.drop (i + 1)).length = s.size - (i + 1) := by rw [List.length_drop, size_list]
        cases d with
        | zero =>
          refine l1Read_list s i x w hs (by omega) (by omega) hlt h40 (fun _ => none) (fun _ _ _ h => by simp at h) (fun i w hi => l1Read_end s i (x + 1) w (by omega) (.inl (by omega)) hs) _ ?_
          rw [hl]
          unfold rd rdLoop
          rfl
        | succ d =>
          refine l1Read_list s i x w hs (by omega) (by omega) hlt h40 (rd d) (fun l t r h => ⟨rd_suffix _ _ _ _ h, rd_len _ _ _ _ h⟩) (fun i w hi => l1Read_any d s i (x + 1) w (by omega) hs (by omega) (by omega) hi) _ ?_
          rw [hl]
          have hrd : ∀ n m acc (l : List UInt8), l.length < n → l.length < m → rdLoop (rd d) n acc l = rdLoop (rd d) m acc l := rdLoop_fuel (rd_len d)
          conv => rhs; unfold rd
          rw [if_neg (by simp [show atomB 40 = false from by decide])]
          exact hrd _ _ _ _ (by omega) (by omega)
      · exact l1Read_atom d s i x w hs (by omega) (by omega) hlt h40
    · have he : s.data.toList.drop i = [] := List.drop_eq_nil_of_le (by rw [size_list]; omega)
      have hno : rd d [] = none := by unfold rd; rw [if_neg (by simp)]; split <;> simp_all
      rw [he, hno]
      exact l1Read_end s i x w (by omega) (.inr (by omega)) hs

end Go.Proofs.YtkciljcligohnaaDoor
