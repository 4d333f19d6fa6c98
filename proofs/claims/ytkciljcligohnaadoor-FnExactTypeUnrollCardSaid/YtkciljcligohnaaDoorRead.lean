/- The program's reading of texts: isAtomByte, readExpr, readText. -/
import Derived.Test.YtkciljcligohnaaDoorRd
import Derived.Test.YtkciljcligohnaaDoorShelf
namespace Go.Proofs.YtkciljcligohnaaDoor
open Go.RowKit
set_option linter.unusedVariables false
set_option linter.unusedSimpArgs false

set_option maxHeartbeats 400000 in
theorem isAtomByte_any (b : UInt8) (w : World) : Calls Tryd.prog 117 #[.int .u8 b.toNat] w fun e w' => e = .returned (.bool (atomB b)) ∧ w = w' := by
  rw [atomB_int]
  generalize (b.toNat : Int) = c
  go_enter Tryd.func117, Tryd.ntmps117
  go_wp2
  all_goals go_ret
  all_goals (refine ⟨congrArg (fun b => Ending.returned (.bool b)) ?_, rfl⟩; first | rfl | (rw [Bool.eq_iff_iff]; simp; done) | (rw [Bool.eq_iff_iff]; simp; omega))

/-- What readExpr does at a text: o is what is read. -/
def RdPost (w : World) (s : ByteArray) (o : Option (Tr × List UInt8)) (e : Ending) (w' : World) : Prop :=
  Below w.heap.size w w' ∧ match o with
    | some (t, r) => ∃ p, e = .returned (.tuple #[.pointer p, .string (St r)]) ∧ EAt w' (fun k => w.heap.size ≤ k) t p
    | none => e = .returned (.tuple #[.pointer none, .string s])

theorem St_of {x : ByteArray} {l : List UInt8} (h : x.data.toList = l) : x = St l := by subst h; rfl
theorem size_list (s : ByteArray) : s.data.toList.length = s.size := (Lib.size_eq s).symm

theorem taken_pos {s : ByteArray} {k : Nat} (h0 : (s.data.toList.takeWhile atomB) ≠ []) (hx : ∀ h : k < s.size, atomB s[k] = false) : 0 < k := by
  rcases Nat.eq_zero_or_pos k with rfl | h
  · exfalso
    apply h0
    have hsz := size_list s
    cases hl : s.data.toList with
    | nil => rfl
    | cons b r =>
      have hlt : 0 < s.size := by rw [← hsz, hl]; simp
      have h1 := hx hlt
      have h2 : s[0] = b := by
        have : s.data.toList[0]'(by rw [hl]; simp) = b := by simp [hl]
        exact this
      rw [h2] at h1
      simp [h1]
  · exact h

theorem taken_all {s : ByteArray} {k : Nat} (hk : k ≤ s.size) (h1 : ∀ j (h : j < s.size), j < k → atomB s[j] = true) (hx : ∀ h : k < s.size, atomB s[k] = false) :
    s.extract 0 k = St (s.data.toList.takeWhile atomB) ∧ s.extract k s.size = St (s.data.toList.dropWhile atomB) := by
  have hsz := size_list s
  have h := takeWhile_len_of (l := s.data.toList) (k := k) (by omega) (fun j h hj => h1 j (by omega) hj) (fun h => hx (by omega))
  rw [h.1, h.2]
  exact ⟨St_of (by rw [Lib.extract_data]; simp), St_of (Lib.extract_to_end s k)⟩

set_option maxHeartbeats 1000000 in
theorem readExpr_atom (d : Nat) (s : ByteArray) (x : Int) (w : World) (hs : s.size ≤ 8000) (h0 : (s.data.toList.takeWhile atomB) ≠ []) :
    Calls Tryd.prog 101 #[.string s, .int .i64 x] w (RdPost w s (rd d s.data.toList)) := by
  have hrd : rd d s.data.toList = some (.mk (s.data.toList.takeWhile atomB) [], s.data.toList.dropWhile atomB) := by
    unfold rd; rw [if_pos h0]
  rw [hrd]
  clear hrd
  have H0 := Lib.hid h0
  clear h0
  go_enter Tryd.func101, Tryd.ntmps101
  go_wp2
  go_loop [6] (fun n => ∃ k : Nat, k ≤ s.size ∧ n = .int .i64 k ∧ Hid (∀ j (h : j < s.size), j < k → atomB s[j] = true)) (fun n => s.size - (intOf n).toNat)
  case atStart => exact ⟨0, Nat.zero_le _, rfl, fun _ _ h => absurd h (Nat.not_lt_zero _)⟩
  case round =>
    obtain ⟨k, hk, rfl, hall⟩ := hrel
    by_cases hat : ∃ h : k < s.size, atomB s[k] = true
    · obtain ⟨hlt, hb⟩ := hat
      have hat := isAtomByte_any s[k]
      have Hb := Lib.hid hb
      rw [hb] at hat
      clear hb
      go_wp2_with (go_at_call 117; refine (hat _).mono ?_; rintro e w' ⟨rfl, rfl⟩)
      go_round
      case rel => exact ⟨k + 1, by omega, by go_num, fun j h hj => by rcases Nat.lt_succ_iff_lt_or_eq.1 hj with h1 | rfl; exact hall.out j h h1; exact Hb.out⟩
      case measure => simp [intOf]; omega
    · have hex : ∀ h : k < s.size, atomB s[k] = false := fun h => by
        cases hb : atomB s[k] with
        | true => exact absurd ⟨h, hb⟩ hat
        | false => rfl
      have hpos := taken_pos H0.out hex
      have Hl := Lib.hid (taken_all hk hall.out hex)
      clear hat
      by_cases hlt : k < s.size
      · have hb := hex hlt
        have hat := isAtomByte_any s[k]
        rw [hb] at hat
        clear hb hex
        go_wp2_with (go_at_call 117; refine (hat _).mono ?_; rintro e w' ⟨rfl, rfl⟩)
        go_region
        go_wp2
        go_ret2
        rw [Hl.out.1, Hl.out.2]
        exact ⟨up_drew (up_alloc (Below.refl _ _) _), _, rfl, _, none, 0, rfl, Nat.le_refl _, block_new w _, Nat.le_refl _, trivial⟩
      · clear hex
        go_wp2
        go_region
        go_wp2
        go_ret2
        rw [Hl.out.1, Hl.out.2]
        exact ⟨up_drew (up_alloc (Below.refl _ _) _), _, rfl, _, none, 0, rfl, Nat.le_refl _, block_new w _, Nat.le_refl _, trivial⟩

/-- A row of pointers as values. -/
inductive Ptrs (w : World) (ok : Nat → Prop) : List Tr → List Value → Prop where
  | nil : Ptrs w ok [] []
  | cons (t : Tr) (p : Option Addr) (ts : List Tr) (ps : List Value) (h : EAt w ok t p) (hr : Ptrs w ok ts ps) : Ptrs w ok (t :: ts) (.pointer p :: ps)

theorem Ptrs.move {w w1 : World} {ok ok' : Nat → Prop} (hb : ∀ k, k < w.heap.size → ok k → ok' k ∧ w1.heap[k]? = w.heap[k]?) {ts : List Tr} {ps : List Value} (h : Ptrs w ok ts ps) : Ptrs w1 ok' ts ps := by
  induction h with
  | nil => exact .nil
  | cons t p ts ps h _ ih => exact .cons t p ts ps (h.move hb) ih
theorem Ptrs.snoc {w : World} {ok : Nat → Prop} {ts : List Tr} {ps : List Value} (h : Ptrs w ok ts ps) {t : Tr} {p : Option Addr} (ht : EAt w ok t p) : Ptrs w ok (ts ++ [t]) (ps ++ [.pointer p]) := by
  induction h with
  | nil => exact .cons t p [] [] ht .nil
  | cons t p ts ps h _ ih => exact .cons t p _ _ h ih
theorem Ptrs.length {w : World} {ok : Nat → Prop} {ts : List Tr} {ps : List Value} (h : Ptrs w ok ts ps) : ps.length = ts.length := by
  induction h with
  | nil => rfl
  | cons t p ts ps h _ ih => simp [ih]
theorem Ptrs.row {w : World} {ok : Nat → Prop} {b : Nat} {cur : Array Value} (hb : w.heap[b]? = some (.cells cur 74 (0, 0))) (hok : ok b) {ts : List Tr} {ps : List Value} (h : Ptrs w ok ts ps) :
    ∀ o, (∀ i u, ps[i]? = some u → cur[o + i]? = some u) → ERow w ok ts (some ⟨b, o, none⟩) := by
  induction h with
  | nil => exact fun _ _ => trivial
  | cons t p ts ps h _ ih =>
    intro o hc
    exact ⟨b, o, p, cur, rfl, hok, hb, hc 0 _ rfl, h, ih (o + 1) (fun i u hu => by have := hc (i + 1) u (by simpa using hu); rw [show o + 1 + i = o + (i + 1) from by omega]; exact this)⟩

/-- What holds at each round's head while the parts are read. -/
structure RdRel (w : World) (acc : List Tr) (v : Value) (wr : World) : Prop where
  blk : wr.heap[w.heap.size]? = some (.cells #[.string (St []), v] 102 (0, 0))
  own : ∃ ps, wr.ownsRow (w.heap.size + 1) 74 1 v acc.length ps ∧ Ptrs wr (fun k => w.heap.size < k ∧ some k ≠ v.ownBlock) acc ps
  bel : Below w.heap.size w wr

theorem own_up {w w1 : World} {base : Nat} {e : TypeId} {size n : Nat} {v : Value} {xs : List Value} (h : w.ownsRow base e size v n xs) (hb : Below w.heap.size w w1) : w1.ownsRow base e size v n xs :=
  h.kept (row := none) ⟨hb.os, hb.tape, hb.output, hb.size, fun k hk _ => hb.block k hk⟩ (by cases hv : v.ownBlock <;> simp)

theorem RdRel.up {w wr w1 : World} {acc : List Tr} {v : Value} (h : RdRel w acc v wr) (hb : Below wr.heap.size wr w1) : RdRel w acc v w1 := by
  obtain ⟨hblk, ⟨ps, ho, hp⟩, hbel⟩ := h
  exact ⟨block_up hb hblk, ⟨ps, own_up ho hb, hp.move fun k hk ho => ⟨ho, hb.block k hk⟩⟩, below_then hbel hbel.size hb⟩

theorem RdRel.step {w wr w2 : World} {acc : List Tr} {v : Value} (h : RdRel w acc v wr) {t : Tr} {p : Option Addr} {H g cap : Nat} {ps : List Value}
    (ho : wr.ownsRow (w.heap.size + 1) 74 1 v acc.length ps) (hps : Ptrs wr (fun k => w.heap.size < k ∧ some k ≠ v.ownBlock) acc ps)
    (ht : EAt wr (fun k => w.heap.size < k ∧ some k ≠ v.ownBlock ∧ k < H) t p) (hH : wr.heap.size = H) (hown : w2.ownsRow (w.heap.size + 1) 74 1 (.slice (some ⟨g, 0, none⟩) (acc.length + 1) cap) (acc.length + 1) (ps ++ [.pointer p]))
    (hgrow : (wr.alloc (.cells #[.pointer p] 74)).grownBy w2 v.ownBlock) (hat : v.ownBlock = some g ∨ g = H + 1) :
    RdRel w (acc ++ [t]) (.slice (some ⟨g, 0, none⟩) (acc.length + 1) cap) (w2.setCell ⟨w.heap.size, 1, none⟩ (.slice (some ⟨g, 0, none⟩) (acc.length + 1) cap)) := by
  have hlt := lt_of_block h.blk
  have hne : some w.heap.size ≠ v.ownBlock := fun hv => by have := (ho.lt _ hv.symm).1; omega
  have hb2 : ∀ k, k < wr.heap.size → some k ≠ v.ownBlock → w2.heap[k]? = wr.heap[k]? := fun k hk hk' => by
    rw [hgrow.block k (by simp; omega) hk']
    exact Below.heap_alloc _ _ _ hk
  have hblk2 : w2.heap[w.heap.size]? = some (.cells #[.string (St []), v] 102 (0, 0)) := (hb2 _ hlt hne).trans h.blk
  have hmove : ∀ k, k < wr.heap.size → (w.heap.size < k ∧ some k ≠ v.ownBlock) → (w.heap.size < k ∧ some k ≠ (Value.slice (some ⟨g, 0, none⟩) (acc.length + 1) cap).ownBlock) ∧ (w2.setCell ⟨w.heap.size, 1, none⟩ (.slice (some ⟨g, 0, none⟩) (acc.length + 1) cap)).heap[k]? = wr.heap[k]? := fun k hk ⟨h1, h2⟩ => by
    refine ⟨⟨h1, fun hkg => ?_⟩, ?_⟩
    · have hkg : k = g := by simpa [Value.ownBlock] using hkg
      rcases hat with hat | hat
      · exact h2 (by rw [hat, hkg])
      · omega
    · rw [Below.heap_setCell _ _ _ _ (by show k ≠ w.heap.size; omega)]
      exact hb2 k hk h2
  refine ⟨?_, ⟨ps ++ [.pointer p], ?_, ?_⟩, ?_⟩
  · simp only [World.setCell, Array.getElem?_modify, if_true, hblk2]
    rfl
  · rw [List.length_append]
    exact ownsRow_setCell_below hown (by show w.heap.size < w.heap.size + 1; omega) _
  · exact (hps.move hmove).snoc (ht.move fun k hk hk' => hmove k hk ⟨hk'.1, hk'.2.1⟩)
  · exact Below.setCell (Below.grown (h.bel.alloc h.bel.size _) hgrow (by simp; have := h.bel.size; omega) (fun k hk => by have := (ho.lt _ hk).1; omega)) (Nat.le_refl _) _

theorem RdRel.mid {w wr w2 : World} {acc : List Tr} {v : Value} (h : RdRel w acc v wr) {p : Option Addr} {ps : List Value}
    (ho : wr.ownsRow (w.heap.size + 1) 74 1 v acc.length ps) (hgrow : (wr.alloc (.cells #[.pointer p] 74)).grownBy w2 v.ownBlock) :
    w2.heap[w.heap.size]? = some (.cells #[.string (St []), v] 102 (0, 0)) := by
  have hlt := lt_of_block h.blk
  rw [hgrow.block _ (by simp; omega) (fun hv => by have := (ho.lt _ hv.symm).1; omega)]
  exact block_alloc h.blk _

theorem RdRel.start (w : World) : RdRel w [] (.slice none 0 0) (w.alloc (.cells #[.string (St []), .slice none 0 0] 102)) :=
  ⟨block_new w _, ⟨[], World.ownsRow_nil _ _ _ _, .nil⟩, up_alloc (Below.refl _ _) _⟩

theorem RdRel.done {w wr : World} {acc : List Tr} {v : Value} (h : RdRel w acc v wr) : EAt wr (fun k => w.heap.size ≤ k) (.mk [] acc) (some ⟨w.heap.size, 0, none⟩) := by
  obtain ⟨hblk, ⟨ps, ho, hp⟩, _⟩ := h
  have hl := hp.length
  rcases ho.2 with ⟨rfl, h0⟩ | ⟨g, cap, cur, rfl, hg, hh, hc, _, _, htk⟩
  · have : acc = [] := List.length_eq_zero_iff.1 h0
    subst this
    exact ⟨_, none, 0, rfl, Nat.le_refl _, hblk, Nat.le_refl _, trivial⟩
  · refine ⟨_, _, cap, rfl, Nat.le_refl _, hblk, hc, ?_⟩
    refine Ptrs.row (b := g) (cur := cur) hh (by omega) (hp.move fun k _ hk => ⟨by omega, rfl⟩) 0 (fun i u hu => ?_)
    have : (cur.toList.take (acc.length * 1))[i]? = some u := by rw [htk]; exact hu
    rw [List.getElem?_take] at this
    split at this
    · simpa using this
    · cases this

/-- The number of bytes in a slot. -/
theorem readExpr_none (d : Nat) (s : ByteArray) (x : Int) (w : World) (hs : s.size ≤ 8000) (hx : x + d ≤ 300) (hx' : 300 ≤ x + d) (h0 : (s.data.toList.takeWhile atomB) = [])
    (hno : ∀ b r, s.data.toList = b :: r → d = 0 ∨ b ≠ 40) :
    Calls Tryd.prog 101 #[.string s, .int .i64 x] w (RdPost w s (rd d s.data.toList)) := by
  have hrd : rd d s.data.toList = none := by
    unfold rd; rw [if_neg (by simp [h0])]
    split
    · rename_i d b r
      rcases hno _ _ ‹_› with h | h
      · omega
      · rw [if_neg h]
    · rfl
  rw [hrd]
  clear hrd
  cases hl : s.data.toList with
  | nil =>
    have h1 : s.toList.isEmpty = true := by rw [Lib.toList_data, hl]; rfl
    have h2 : s.size = 0 := by rw [← size_list, hl]; rfl
    clear hno h0 hl
    go_enter Tryd.func101, Tryd.ntmps101
    go_wp2
    go_loop [6] (fun n => n = .int .i64 0) (fun n => 0)
    case atStart => rfl
    case round =>
      subst hrel
      go_wp2
      go_ret2
      exact ⟨Below.refl _ _, rfl⟩
  | cons b r =>
    have h1 : s.toList.isEmpty = false := by rw [Lib.toList_data, hl]; rfl
    have h2 : 0 < s.size := by rw [← size_list, hl]; simp
    have h3 : s[0] = b := by
      have : s.data.toList[0]'(by rw [hl]; simp) = b := by simp [hl]
      exact this
    have h4 : atomB b = false := by
      rw [hl] at h0
      cases hb : atomB b with
      | true => simp [hb] at h0
      | false => rfl
    have hat := isAtomByte_any b
    rw [h4] at hat
    have h5 : d = 0 ∨ b ≠ 40 := hno _ _ hl
    clear hno h0 hl h4
    by_cases hb : b = 40
    · have h6 : (x == 300) = true := by have : d = 0 := by rcases h5 with h | h; exact h; exact absurd hb h
                                        simp; omega
      subst hb
      have hat40 : ∀ w, Calls Tryd.prog 117 #[.int .u8 40] w fun e w' => e = .returned (.bool false) ∧ w = w' := hat
      clear h5 hat
      go_enter Tryd.func101, Tryd.ntmps101
      go_wp2
      go_loop [6] (fun n => n = .int .i64 0) (fun n => 0)
      case atStart => rfl
      case round =>
        subst hrel
        go_wp2_with (go_at_call 117; refine (hat40 _).mono ?_; rintro e w' ⟨rfl, rfl⟩)
        go_ret2
        exact ⟨Below.refl _ _, rfl⟩
    · have h6 : ((b.toNat : Int) != 40) = true := by
        rw [bne_iff_ne]
        intro h
        exact hb (UInt8.toNat_inj.1 (by have : (40 : UInt8).toNat = 40 := rfl; omega))
      clear h5
      go_enter Tryd.func101, Tryd.ntmps101
      go_wp2
      go_loop [6] (fun n => n = .int .i64 0) (fun n => 0)
      case atStart => rfl
      case round =>
        subst hrel
        go_wp2_with (go_at_call 117; refine (hat _).mono ?_; rintro e w' ⟨rfl, rfl⟩)
        go_ret2
        exact ⟨Below.refl _ _, rfl⟩

theorem Tryd.infoExprPtr : (Tryd.prog.info? 74).map (fun i => (i.zero, i.size, i.bytes)) = some (some (.pointer none), 1, 8) := by kernel_rfl

theorem cons_bytes {s : ByteArray} {b : UInt8} {r : List UInt8} (hl : s.data.toList = b :: r) : s.toList.isEmpty = false ∧ 0 < s.size ∧ s.size = r.length + 1 ∧ (∀ h : 0 < s.size, s[0] = b) ∧ s.extract 1 s.size = St r := by
  have h0 := size_list s
  rw [hl] at h0
  simp only [List.length_cons] at h0
  refine ⟨by rw [Lib.toList_data, hl]; rfl, by omega, by omega, fun h => ?_, St_of (by rw [Lib.extract_to_end, hl]; rfl)⟩
  have : s.data.toList[0]'(by rw [hl]; simp) = b := by simp [hl]
  exact this

theorem byte_eq {b c : UInt8} (h : b = c) : ((b.toNat : Int) == (c.toNat : Int)) = true := by rw [h]; simp
theorem byte_ne {b c : UInt8} (h : b ≠ c) : ((b.toNat : Int) == (c.toNat : Int)) = false := by
  rw [beq_eq_false_iff_ne]
  intro h'
  exact h (UInt8.toNat_inj.1 (by omega))
theorem byte_bne {b c : UInt8} (h : b ≠ c) : ((b.toNat : Int) != (c.toNat : Int)) = true := by
  rw [bne_iff_ne]
  intro h'
  exact h (UInt8.toNat_inj.1 (by omega))
theorem byte_beq {b c : UInt8} (h : b = c) : ((b.toNat : Int) != (c.toNat : Int)) = false := by rw [h]; simp

set_option maxHeartbeats 4000000 in
set_option maxRecDepth 100000 in
theorem readExpr_list (d : Nat) (hd : d + 1 ≤ 300) (s : ByteArray) (x : Int) (w : World) (hs : s.size ≤ 8000) (hx : x + (d + 1 : Nat) ≤ 300) (hx' : 300 ≤ x + (d + 1 : Nat)) (r : List UInt8) (hl : s.data.toList = 40 :: r)
    (ih : ∀ (s : ByteArray) (x : Int) (w : World), s.size ≤ 8000 → x + d ≤ 300 → 300 ≤ x + d → Calls Tryd.prog 101 #[.string s, .int .i64 x] w (RdPost w s (rd d s.data.toList)))
    (o : Option (Tr × List UInt8)) (ho : Hid (rdLoop (rd d) (r.length + 1) [] r = o)) :
    Calls Tryd.prog 101 #[.string s, .int .i64 x] w (RdPost w s o) := by
  obtain ⟨h1, h2, h3, h4, h5⟩ := cons_bytes hl
  replace h4 := h4 h2
  clear hl
  have H3 := Lib.hid h3
  clear h3
  have hat40 : ∀ w, Calls Tryd.prog 117 #[.int .u8 40] w fun e w' => e = .returned (.bool false) ∧ w = w' := isAtomByte_any 40
  have h6 : (x == 300) = false := by simp; omega
  obtain ⟨i0, hi0, hz0, hz1, hz2⟩ := info_parts Tryd.infoExprPtr
  have IH := Lib.hid ih
  clear ih
  go_enter Tryd.func101, Tryd.ntmps101
  go_wp2
  go_loop [6] (fun n => n = .int .i64 0) (fun n => 0)
  case atStart => rfl
  case round =>
    subst hrel
    go_wp2_with (go_at_call 117; refine (hat40 _).mono ?_; rintro e w' ⟨rfl, rfl⟩)
    have hr0 : r.length ≤ 8000 := by have := H3.out; omega
    go_loopg [7] r.length (fun n q wr => ∃ (acc : List Tr) (l : List UInt8) (v : Value), q = .string (St l) ∧ RdRel w acc v wr ∧ l.length ≤ n ∧ acc.length + l.length ≤ 8000 ∧ (∃ m, n < m ∧ Hid (rdLoop (rd d) m acc l = o)))
    case atStart => exact ⟨[], r, _, rfl, RdRel.start w, Nat.le_refl _, by simpa using hr0, _, Nat.lt_succ_self _, ho⟩
    case round =>
      obtain ⟨acc, l, v, rfl, hR, hln, hal, m, hm, HE⟩ := hrel
      have hx0 : 0 ≤ x := by omega
      have hx1 : x ≤ 300 := by omega
      clear ho hat40 h1 h4 h5 h2 H3 hr0
      have hcall : Calls Tryd.prog 101 #[.string (St l), .int .i64 (x + 1)] wr (RdPost wr (St l) (rd d l)) := IH.out (St l) (x + 1) wr (show l.length ≤ 8000 by omega) (by omega) (by omega)
      have HIH := Lib.hid IH
      clear IH
      obtain ⟨m, rfl⟩ : ∃ m', m = m' + 1 := ⟨m - 1, by omega⟩
      have hE := HE.out
      clear HE
      unfold rdLoop at hE
      have c0 := block_cell hR.blk 0
      have c1 := block_cell hR.blk 1
      simp only [List.getElem?_toArray, List.getElem?_cons_zero, List.getElem?_cons_succ] at c0 c1
      cases hrd : rd d l with
      | none =>
        rw [hrd] at hE hcall
        replace hE : none = o := hE
        subst hE
        replace hcall : Calls Tryd.prog 101 #[.string (St l), .int .i64 (x + 1)] wr (fun e w1 => Below wr.heap.size wr w1 ∧ e = .returned (.tuple #[.pointer none, .string (St l)])) := hcall
        have HR := Lib.hid hR
        clear hR hrd
        go_wp2_with (go_at_call 101; refine hcall.mono ?_; rintro e w1 ⟨hb1, rfl⟩)
        go_ret2
        exact ⟨below_then HR.out.bel HR.out.bel.size hb1, rfl⟩
      | some tr =>
        obtain ⟨t, q⟩ := tr
        rw [hrd] at hE hcall
        have hlen := rd_len _ _ _ _ hrd
        clear hrd
        replace hcall : Calls Tryd.prog 101 #[.string (St l), .int .i64 (x + 1)] wr (fun e w1 => Below wr.heap.size wr w1 ∧ ∃ p, e = .returned (.tuple #[.pointer p, .string (St q)]) ∧ EAt w1 (fun k => wr.heap.size ≤ k) t p) := hcall
        cases q with
        | nil =>
          replace hE : none = o := hE
          subst hE
          have HR := Lib.hid hR
          clear hR
          go_wp2_with (go_at_call 101; refine hcall.mono ?_; rintro e w1 ⟨hb1, p, rfl, hp⟩; obtain ⟨g, rfl⟩ := hp.some_)
          go_ret2
          exact ⟨below_then HR.out.bel HR.out.bel.size hb1, rfl⟩
        | cons b q =>
          replace hE : (if b = 41 then some (Tr.mk [] (acc ++ [t]), q) else if b = 32 then rdLoop (rd d) m (acc ++ [t]) q else none) = o := hE
          obtain ⟨Q, hQ⟩ : ∃ Q : ByteArray, Q = St (b :: q) := ⟨_, rfl⟩
          rw [← hQ] at hcall
          obtain ⟨k1, k2, k3, k4, k5⟩ := cons_bytes (s := Q) (b := b) (r := q) (by rw [hQ])
          replace k4 := k4 k2
          clear hQ
          have K3 := Lib.hid k3
          clear k3
          simp only [List.length_cons] at hlen
          obtain ⟨ps, ho, hps⟩ := hR.own
          have hsz := hR.bel.size
          have HR := Lib.hid hR
          have HO := Lib.hid ho
          have HPS := Lib.hid hps
          clear hR ho hps
          have hcall2 : Calls Tryd.prog 101 #[.string (St l), .int .i64 (x + 1)] wr (fun e w1 => ∃ p g, p = some ⟨g, 0, none⟩ ∧ e = .returned (.tuple #[.pointer p, .string Q]) ∧ Hid (Below wr.heap.size wr w1) ∧ Hid (EAt w1 (fun k => wr.heap.size ≤ k) t p) ∧
              w.heap.size + 1 ≤ w1.heap.size ∧ Hid (w1.ownsRow (w.heap.size + 1) 74 1 v acc.length ps) ∧ w1.cell? ⟨w.heap.size, 0, none⟩ = some (.string (St [])) ∧ w1.cell? ⟨w.heap.size, 1, none⟩ = some v) := hcall.mono fun e w1 ⟨hb1, p, he, hp⟩ => by
            obtain ⟨g, rfl⟩ := hp.some_
            have hR1 := HR.out.up hb1
            have c0 := block_cell hR1.blk 0
            have c1 := block_cell hR1.blk 1
            exact ⟨_, g, rfl, he, hb1, hp, by have := hb1.size; have := lt_of_block HR.out.blk; omega, own_up HO.out hb1, c0, c1⟩
          clear hcall c0 c1
          by_cases hb41 : b = 41
          · rw [if_pos hb41] at hE
            subst hE
            have hbt : ((b.toNat : Int) == 41) = true := byte_eq hb41
            clear hb41
            go_wp2_with (first | (go_at_call 101; refine hcall2.mono ?_; rintro e w1 ⟨p, g, rfl, rfl, hb1, hp, hsz1, ho1, c0, c1⟩) | (at_builtin; refine wpList_append_lies _ rfl _ _ 100 rfl (w.heap.size + 1) 74 i0 (.pointer none) 1 8 Tryd.underlying100 hi0 hz0 hz1 hz2 rfl (by decide) v acc.length ps rfl (ho1.out.alloc _) ⟨w1.heap.size, 0, none⟩ 1 1 [.pointer (some ⟨g, 0, none⟩)] rfl rfl (World.news_of_block (cs := #[.pointer (some ⟨g, 0, none⟩)]) (t := 74) (fr := (0, 0)) (heap_alloc_new w1 _)) (by simp [Value.oneCell']) (by decide) (by unfold maxLen; omega) (by omega) (by simp; omega) (w1.heap.size + 1) (by simp) ?_; intro g' cap w2 hown hgrow hat hlt; have hm2 := RdRel.mid (HR.out.up hb1.out) ho1.out hgrow; have d1 : w2.cell? ⟨w.heap.size, 1, none⟩ = some v := block_cell hm2 1; have d2 := block_free hm2 1; have HN := Lib.hid (RdRel.step (HR.out.up hb1.out) ho1.out (HPS.out.move fun k hk ho => ⟨ho, hb1.out.block k hk⟩) (hp.out.move fun k hk hk' => ⟨⟨by have := HR.out.bel.size; have := lt_of_block HR.out.blk; omega, fun hv => by have := (HO.out.lt _ hv.symm).2; omega, hk⟩, rfl⟩) rfl hown hgrow hat); clear hm2 hown hgrow hat hlt))
            go_ret2
            exact ⟨HN.out.bel, _, rfl, HN.out.done⟩
          · rw [if_neg hb41] at hE
            have hbt : ((b.toNat : Int) == 41) = false := byte_ne hb41
            clear hb41
            by_cases hb32 : b = 32
            · rw [if_pos hb32] at hE
              have HE := Lib.hid hE
              clear hE
              have hbu : ((b.toNat : Int) != 32) = false := byte_beq hb32
              clear hb32
              go_wp2_with (first | (go_at_call 101; refine hcall2.mono ?_; rintro e w1 ⟨p, g, rfl, rfl, hb1, hp, hsz1, ho1, c0, c1⟩) | (at_builtin; refine wpList_append_lies _ rfl _ _ 100 rfl (w.heap.size + 1) 74 i0 (.pointer none) 1 8 Tryd.underlying100 hi0 hz0 hz1 hz2 rfl (by decide) v acc.length ps rfl (ho1.out.alloc _) ⟨w1.heap.size, 0, none⟩ 1 1 [.pointer (some ⟨g, 0, none⟩)] rfl rfl (World.news_of_block (cs := #[.pointer (some ⟨g, 0, none⟩)]) (t := 74) (fr := (0, 0)) (heap_alloc_new w1 _)) (by simp [Value.oneCell']) (by decide) (by unfold maxLen; omega) (by omega) (by simp; omega) (w1.heap.size + 1) (by simp) ?_; intro g' cap w2 hown hgrow hat hlt; have hm2 := RdRel.mid (HR.out.up hb1.out) ho1.out hgrow; have d1 : w2.cell? ⟨w.heap.size, 1, none⟩ = some v := block_cell hm2 1; have d2 := block_free hm2 1; have HN := Lib.hid (RdRel.step (HR.out.up hb1.out) ho1.out (HPS.out.move fun k hk ho => ⟨ho, hb1.out.block k hk⟩) (hp.out.move fun k hk hk' => ⟨⟨by have := HR.out.bel.size; have := lt_of_block HR.out.blk; omega, fun hv => by have := (HO.out.lt _ hv.symm).2; omega, hk⟩, rfl⟩) rfl hown hgrow hat); clear hm2 hown hgrow hat hlt))
              go_roundg q.length
              case measure => omega
              case rel => exact ⟨acc ++ [t], q, _, rfl, HN.out, Nat.le_refl _, by simp; omega, m, by omega, HE.out⟩
            · rw [if_neg hb32] at hE
              subst hE
              have hbu : ((b.toNat : Int) != 32) = true := byte_bne hb32
              clear hb32
              go_wp2_with (first | (go_at_call 101; refine hcall2.mono ?_; rintro e w1 ⟨p, g, rfl, rfl, hb1, hp, hsz1, ho1, c0, c1⟩) | (at_builtin; refine wpList_append_lies _ rfl _ _ 100 rfl (w.heap.size + 1) 74 i0 (.pointer none) 1 8 Tryd.underlying100 hi0 hz0 hz1 hz2 rfl (by decide) v acc.length ps rfl (ho1.out.alloc _) ⟨w1.heap.size, 0, none⟩ 1 1 [.pointer (some ⟨g, 0, none⟩)] rfl rfl (World.news_of_block (cs := #[.pointer (some ⟨g, 0, none⟩)]) (t := 74) (fr := (0, 0)) (heap_alloc_new w1 _)) (by simp [Value.oneCell']) (by decide) (by unfold maxLen; omega) (by omega) (by simp; omega) (w1.heap.size + 1) (by simp) ?_; intro g' cap w2 hown hgrow hat hlt; have hm2 := RdRel.mid (HR.out.up hb1.out) ho1.out hgrow; have d1 : w2.cell? ⟨w.heap.size, 1, none⟩ = some v := block_cell hm2 1; have d2 := block_free hm2 1; have HN := Lib.hid (RdRel.step (HR.out.up hb1.out) ho1.out (HPS.out.move fun k hk ho => ⟨ho, hb1.out.block k hk⟩) (hp.out.move fun k hk hk' => ⟨⟨by have := HR.out.bel.size; have := lt_of_block HR.out.blk; omega, fun hv => by have := (HO.out.lt _ hv.symm).2; omega, hk⟩, rfl⟩) rfl hown hgrow hat); clear hm2 hown hgrow hat hlt))
              go_ret2
              exact ⟨HN.out.bel, rfl⟩

/-- readExpr reads. -/
theorem readExpr_any : ∀ (d : Nat) (s : ByteArray) (x : Int) (w : World), d ≤ 300 → s.size ≤ 8000 → x + d ≤ 300 → 300 ≤ x + d →
    Calls Tryd.prog 101 #[.string s, .int .i64 x] w (RdPost w s (rd d s.data.toList))
  | d, s, x, w, hd, hs, hx, hx' => by
    by_cases h0 : s.data.toList.takeWhile atomB = []
    · cases d with
      | zero => exact readExpr_none 0 s x w hs hx hx' h0 (fun _ _ _ => .inl rfl)
      | succ d =>
        by_cases hno : ∃ r, s.data.toList = 40 :: r
        · obtain ⟨r, hl⟩ := hno
          refine readExpr_list d hd s x w hs hx hx' r hl (fun s x w h1 h2 h3 => readExpr_any d s x w (by omega) h1 h2 h3) _ ?_
          rw [hl]
          conv => rhs; unfold rd
          rw [if_neg (by simp [show atomB 40 = false from by decide])]
          rfl
        · exact readExpr_none (d + 1) s x w hs hx hx' h0 (fun b r hl => .inr fun hb => hno ⟨r, by rw [hl, hb]⟩)
    · exact readExpr_atom d s x w hs h0

/-- What readText does. -/
def EPost (w : World) (o : Option Tr) (e : Ending) (w' : World) : Prop :=
  Below w.heap.size w w' ∧ match o with
    | some t => ∃ p, e = .returned (.pointer p) ∧ EAt w' (fun _ => True) t p
    | none => e = .returned (.pointer none)

theorem nonempty_toList {s : ByteArray} (h : s.data.toList ≠ []) : s.toList.isEmpty = false ∧ ¬ s.toList = [] := by
  rw [Lib.toList_data]
  exact ⟨by cases hl : s.data.toList with | nil => exact absurd hl h | cons => rfl, h⟩

set_option maxHeartbeats 1000000 in
theorem readText_any (s : ByteArray) (w : World) (hs : s.size ≤ 9223372036854775807) : Calls Tryd.prog 80 #[.string s] w (EPost w (rdText s.data.toList)) := by
  by_cases hb : s.size ≤ 8000
  · have ho : rdText s.data.toList = match rd 300 s.data.toList with | some (t, []) => some t | _ => none := by
      unfold rdText
      rw [if_neg (by rw [size_list]; omega)]
      rfl
    have hcall := readExpr_any 300 s 0 w (Nat.le_refl _) hb (by omega) (by omega)
    cases hrd : rd 300 s.data.toList with
    | none =>
      rw [hrd] at ho hcall
      replace ho : rdText s.data.toList = none := ho
      rw [ho]
      replace hcall : Calls Tryd.prog 101 #[.string s, .int .i64 0] w (fun e w1 => Below w.heap.size w w1 ∧ e = .returned (.tuple #[.pointer none, .string s])) := hcall
      clear ho hrd
      go_enter Tryd.func80, Tryd.ntmps80
      go_wp2_with (go_at_call 101; refine hcall.mono ?_; rintro e w1 ⟨hb1, rfl⟩)
      all_goals go_ret
      all_goals exact ⟨hb1, rfl⟩
    | some tr =>
      obtain ⟨t, q⟩ := tr
      rw [hrd] at ho hcall
      replace hcall : Calls Tryd.prog 101 #[.string s, .int .i64 0] w (fun e w1 => Below w.heap.size w w1 ∧ ∃ p, e = .returned (.tuple #[.pointer p, .string (St q)]) ∧ EAt w1 (fun k => w.heap.size ≤ k) t p) := hcall
      clear hrd
      cases q with
      | nil =>
        replace ho : rdText s.data.toList = some t := ho
        rw [ho]
        clear ho
        go_enter Tryd.func80, Tryd.ntmps80
        go_wp2_with (go_at_call 101; refine hcall.mono ?_; rintro e w1 ⟨hb1, p, rfl, hp⟩)
        go_ret
        exact ⟨hb1, p, rfl, hp.weak fun _ _ => trivial⟩
      | cons b q =>
        replace ho : rdText s.data.toList = none := ho
        rw [ho]
        obtain ⟨Q, hQ⟩ : ∃ Q : ByteArray, Q = St (b :: q) := ⟨_, rfl⟩
        rw [← hQ] at hcall
        obtain ⟨h1, h2⟩ := nonempty_toList (s := Q) (by rw [hQ]; simp)
        clear ho hQ
        go_enter Tryd.func80, Tryd.ntmps80
        go_wp2_with (go_at_call 101; refine hcall.mono ?_; rintro e w1 ⟨hb1, p, rfl, hp⟩)
        go_ret
        exact ⟨hb1, rfl⟩
  · have ho : rdText s.data.toList = none := by unfold rdText; rw [if_pos (by rw [size_list]; omega)]
    rw [ho]
    clear ho
    go_enter Tryd.func80, Tryd.ntmps80
    go_wp2_with fail
    go_ret
    exact ⟨Below.refl _ _, rfl⟩

end Go.Proofs.YtkciljcligohnaaDoor
