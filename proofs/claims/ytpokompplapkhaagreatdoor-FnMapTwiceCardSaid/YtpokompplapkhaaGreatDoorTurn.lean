/- The reference's l2Turn. -/
import Derived.Test.YtpokompplapkhaaGreatDoorSIs
import Derived.Test.YtpokompplapkhaaGreatDoorTk
import Derived.Test.YtpokompplapkhaaGreatDoorVTyN
import Derived.Test.YtpokompplapkhaaGreatDoorMapP
import Derived.Test.YtpokompplapkhaaGreatDoorLsT
namespace Go.Proofs.YtpokompplapkhaaGreatDoor
open Go.RowKit
set_option linter.unusedVariables false
set_option linter.unusedSimpArgs false

theorem fnd_turn {env : List (List UInt8 × NT)} (hB : EnvB env) (t : NT) (g : List UInt8 → List UInt8 → List UInt8) (v : V) : v.turnN g env t = v.turnN g (fnd env t).2 (fnd env t).1 ∧ v.labsN env t = v.labsN (fnd env t).2 (fnd env t).1 := by
  cases t with
  | name s =>
    cases hq : lookN s env with
    | none =>
      have hf : fnd env (.name s) = (.name s, env) := by simp only [fnd, hq]
      rw [hf]
      exact ⟨rfl, rfl⟩
    | some q =>
      obtain ⟨L, r⟩ := q
      obtain ⟨a, r', hL, rfl, h1, h2, h3⟩ := lookN_B hB hq
      have hf : fnd env (.name s) = (L, r') := by simp only [fnd, hq]
      rw [hf]
      subst hL
      constructor <;> cases v <;> simp only [V.turnN, V.labsN, hq]
  | _ => exact ⟨rfl, rfl⟩
theorem TAt.low {w : World} {ok : Nat → Prop} {t : Tr} {v : Value} (h : TAt w ok t v) : TAt w (fun k => k < w.heap.size) t v := h.move fun k hk _ => ⟨hk, rfl⟩
/-- The elements at the places of a name, over named types. -/
def V.atN (v : V) (env : List (List UInt8 × NT)) (t : NT) (nm : List UInt8) : List (List UInt8) := ((v.labsN env t).filter fun p => decide (p.1 = nm)).map (·.2)
/-- Trees and environments stay, and so does what lies below. -/
structure KT (B : Nat) (w w' : World) : Prop where
  tr : Keeps 59 w w'
  en : Keeps 208 w w'
  bl : Below B w w'
theorem KT.up {B : Nat} {w w' : World} (h : Below w.heap.size w w') (hB : B ≤ w.heap.size) : KT B w w' := ⟨.up h, .up h, ⟨h.os, h.tape, h.output, h.size, fun k hk => h.block k (Nat.lt_of_lt_of_le hk hB)⟩⟩
theorem KT.trans {B : Nat} {w w1 w2 : World} (h : KT B w w1) (k : KT B w1 w2) : KT B w w2 := ⟨h.tr.trans k.tr, h.en.trans k.en, h.bl.trans k.bl⟩
theorem KT.size {B : Nat} {w w' : World} (h : KT B w w') : w.heap.size ≤ w'.heap.size := h.bl.size
theorem TAt.kt {B : Nat} {w w' : World} (h : KT B w w') {ok : Nat → Prop} {t : Tr} {v : Value} (ht : TAt w ok t v) : TAt w' ok t v := ht.keep h.tr
theorem EnvAt.kt {B : Nat} {w w' : World} (h : KT B w w') {env : List (List UInt8 × NT)} {A : Option Addr} (he : EnvAt w env A) : EnvAt w' env A := he.keep h.tr h.en
/-- The box of what replaces, with its list. -/
def TBx (w : World) (B gb : Nat) (nm : List UInt8) (a b : Nat) (ls : List (List UInt8)) : Prop :=
  ∃ g cap, w.heap[gb]? = some (.cells #[.string (St nm), .int .i64 a, .int .i64 b, .slice (some ⟨g, 0, none⟩) ls.length cap] 115 (0, 0)) ∧ SOwn w B ls g cap ∧ B ≤ gb
theorem TBx.up {w w' : World} {B gb a b : Nat} {nm : List UInt8} {ls : List (List UInt8)} (h : TBx w B gb nm a b ls) (hb : Below w.heap.size w w') : TBx w' B gb nm a b ls := by
  obtain ⟨g, cap, h1, h2, h3⟩ := h
  exact ⟨g, cap, block_up hb h1, h2.up hb, h3⟩
theorem TBx.box {w : World} {B gb a b k : Nat} {nm : List UInt8} {ls : List (List UInt8)} (h : TBx w B gb nm a b ls) {c d : Value} (hk : w.heap[k]? = some (.cells #[c, d] 59 (0, 0))) (x y : Value) : TBx ((w.setCell ⟨k, 0, none⟩ x).setCell ⟨k, 1, none⟩ y) B gb nm a b ls := by
  obtain ⟨g, cap, h1, h2, h3⟩ := h
  have n1 : ¬ gb = k := by
    rintro rfl
    rw [hk] at h1
    simp at h1
  obtain ⟨_, hg⟩ := h2.lt
  have n2 : ¬ g = k := by
    rintro rfl
    rcases h2.2 with ⟨e1, _⟩ | ⟨g', c', cur, e1, _, e2, _⟩
    · cases e1
    · cases e1
      rw [hk] at e2
      simp at e2
  refine ⟨g, cap, ?_, ?_, h3⟩
  · rw [Below.heap_setCell _ ⟨k, 1, none⟩ _ _ n1, Below.heap_setCell _ ⟨k, 0, none⟩ _ _ n1, h1]
  · refine World.ownsRow.kept h2 (row := some k) ?_ (.inr (by simp [Value.ownBlock]; exact n2))
    exact ⟨rfl, rfl, rfl, by simp [World.setCell], fun j hj hne => by
      rw [Below.heap_setCell _ ⟨k, 1, none⟩ _ j (by simpa using hne), Below.heap_setCell _ ⟨k, 0, none⟩ _ j (by simpa using hne)]⟩
theorem KT.box {B : Nat} {w w' : World} (h : KT B w w') {k : Nat} (hk : w.heap.size ≤ k) (hB : B ≤ w.heap.size) (x y : Value) : KT B w ((w'.setCell ⟨k, 0, none⟩ x).setCell ⟨k, 1, none⟩ y) := by
  have hj : ∀ j, j < w.heap.size → ((w'.setCell ⟨k, 0, none⟩ x).setCell ⟨k, 1, none⟩ y).heap[j]? = w'.heap[j]? := fun j hj => by
    rw [Below.heap_setCell _ ⟨k, 1, none⟩ _ j (by show ¬ j = k; omega), Below.heap_setCell _ ⟨k, 0, none⟩ _ j (by show ¬ j = k; omega)]
  exact ⟨fun j cs fr hb => (hj j (lt_of_block hb)).trans (h.tr _ _ _ hb), fun j cs fr hb => (hj j (lt_of_block hb)).trans (h.en _ _ _ hb), set0 (set0 h.bl (by omega)) (by omega)⟩
/-- What l2Turn gives. -/
def TuP (w : World) (ok : Nat → Prop) (B gb : Nat) (nm : List UInt8) (a b : Nat) (v' : V) (ls : List (List UInt8)) (e : Ending) (w' : World) : Prop :=
  (∃ x A n c, e = .returned (.agg #[.string x, .slice A n c]) ∧ TAt w' (fun k => ok k ∨ w.heap.size + 2 < k) v'.toTr (.agg #[.string x, .slice A n c])) ∧ TBx w' B gb nm a b ls ∧ KT B w w'
/-- The result's box, set at the end. -/
theorem TuP.fin {w w' : World} {ok : Nat → Prop} {B gb a b : Nat} {nm : List UInt8} {v' : V} {ls : List (List UInt8)} (hok : ∀ k, ok k → k < w.heap.size) (hB : B ≤ w.heap.size) {c d : Value} (hr : w'.heap[w.heap.size + 2]? = some (.cells #[c, d] 59 (0, 0)))
    {x : ByteArray} {A : Option Addr} {n c' : Nat} (ht : TAt w' (fun k => ok k ∨ w.heap.size + 2 < k) v'.toTr (.agg #[.string x, .slice A n c'])) (hb : TBx w' B gb nm a b ls) (hk : KT B w w') :
    TuP w ok B gb nm a b v' ls (.returned (.agg #[.string x, .slice A n c'])) ((w'.setCell ⟨w.heap.size + 2, 0, none⟩ (.string x)).setCell ⟨w.heap.size + 2, 1, none⟩ (.slice A n c')) := by
  refine ⟨⟨x, A, n, c', rfl, ht.move fun k hk ho => ⟨ho, ?_⟩⟩, hb.box hr _ _, hk.box (by omega) hB _ _⟩
  have hne : ¬ k = w.heap.size + 2 := by
    rcases ho with ho | ho
    · have := hok k ho; omega
    · omega
  rw [Below.heap_setCell _ ⟨w.heap.size + 2, 1, none⟩ _ k hne, Below.heap_setCell _ ⟨w.heap.size + 2, 0, none⟩ _ k hne]
/-- Three boxes, the first one set. -/
theorem set_box3 {w w1 : World} {a b c d e f : Value} {T : TypeId} (hb : Below w.heap.size w w1) (h0 : w1.heap[w.heap.size]? = some (.cells #[a, b] T (0, 0))) (h1 : w1.heap[w.heap.size + 1]? = some (.cells #[c, d] T (0, 0))) (h2 : w1.heap[w.heap.size + 2]? = some (.cells #[e, f] T (0, 0))) (x y : Value) :
    Below w.heap.size w ((w1.setCell ⟨w.heap.size, 0, none⟩ x).setCell ⟨w.heap.size, 1, none⟩ y) ∧ ((w1.setCell ⟨w.heap.size, 0, none⟩ x).setCell ⟨w.heap.size, 1, none⟩ y).heap[w.heap.size]? = some (.cells #[x, y] T (0, 0)) ∧ ((w1.setCell ⟨w.heap.size, 0, none⟩ x).setCell ⟨w.heap.size, 1, none⟩ y).heap[w.heap.size + 1]? = some (.cells #[c, d] T (0, 0)) ∧ ((w1.setCell ⟨w.heap.size, 0, none⟩ x).setCell ⟨w.heap.size, 1, none⟩ y).heap[w.heap.size + 2]? = some (.cells #[e, f] T (0, 0)) := by
  obtain ⟨k1, k2, k3⟩ := set_box hb h0 h1 x y
  refine ⟨k1, k2, k3, ?_⟩
  rw [Below.heap_setCell _ ⟨w.heap.size, 1, none⟩ _ _ (by simp), Below.heap_setCell _ ⟨w.heap.size, 0, none⟩ _ _ (by simp), h2]
/-- l2Turn for a value, when the type found is t'. -/
def LTu (v : V) (t' : NT) : Prop := ∀ (t : NT) (env : List (List UInt8 × NT)) (A : Option Addr) (c : Nat) (vt vv : Value) (w : World) (ok : Nat → Prop) (B gb : Nat) (nm : List UInt8) (a b : Nat) (ls : List (List UInt8)) (env' : List (List UInt8 × NT)), fnd env t = (t', env') →
  TAt w (fun _ => True) t.toTr vt → EnvAt w env A → TAt w ok v.toTr vv → (∀ k, ok k → k < w.heap.size) → TBx w B gb nm a b ls → B ≤ w.heap.size → EnvB env → t.ok3 → env.length + t.atoms ≤ 100000 → v.ok → v.isOfN 100 env' t' = true → paramB nm = true → a ≤ 99 → b ≤ 99 → ls.length + v.nodes ≤ 1000000 →
  Calls Tryz.prog 91 #[.pointer (some ⟨gb, 0, none⟩), vt, .slice A env.length c, vv] w (TuP w ok B gb nm a b (v.turnN (mapF nm a b) env' t') (ls ++ v.atN env' t' nm))
def LTv (v : V) : Prop := ∀ (t : NT) (env : List (List UInt8 × NT)) (A : Option Addr) (c : Nat) (vt vv : Value) (w : World) (ok : Nat → Prop) (B gb : Nat) (nm : List UInt8) (a b : Nat) (ls : List (List UInt8)),
  TAt w (fun _ => True) t.toTr vt → EnvAt w env A → TAt w ok v.toTr vv → (∀ k, ok k → k < w.heap.size) → TBx w B gb nm a b ls → B ≤ w.heap.size → EnvB env → t.ok3 → env.length + t.atoms ≤ 100000 → v.ok → v.isOfN 100 env t = true → paramB nm = true → a ≤ 99 → b ≤ 99 → ls.length + v.nodes ≤ 1000000 →
  Calls Tryz.prog 91 #[.pointer (some ⟨gb, 0, none⟩), vt, .slice A env.length c, vv] w (TuP w ok B gb nm a b (v.turnN (mapF nm a b) env t) (ls ++ v.atN env t nm))

set_option maxHeartbeats 8000000 in
set_option maxRecDepth 100000 in
theorem l2Turn_stay (v : V) (t' : NT) (s : List UInt8) (hs : t'.toTr = .mk s []) (hsn : s ≠ []) (hr : ∀ (nm : List UInt8) (a b : Nat) (env' : List (List UInt8 × NT)), (∀ x, t' = .name x → lookN x env' = none) → v.isOfN 100 env' t' = true → (s = nm → False) → v.turnN (mapF nm a b) env' t' = v ∧ v.atN env' t' nm = []) (hvne : v.toTr.atom ≠ []) :
    ∀ (nm' : List UInt8), s ≠ nm' → ∀ (t : NT) (env : List (List UInt8 × NT)) (A : Option Addr) (c : Nat) (vt vv : Value) (w : World) (ok : Nat → Prop) (B gb : Nat) (nm : List UInt8) (a b : Nat) (ls : List (List UInt8)) (env' : List (List UInt8 × NT)), nm = nm' → fnd env t = (t', env') →
  TAt w (fun _ => True) t.toTr vt → EnvAt w env A → TAt w ok v.toTr vv → (∀ k, ok k → k < w.heap.size) → TBx w B gb nm a b ls → B ≤ w.heap.size → EnvB env → t.ok3 → env.length + t.atoms ≤ 100000 → v.ok → v.isOfN 100 env' t' = true → paramB nm = true → a ≤ 99 → b ≤ 99 → ls.length + v.nodes ≤ 1000000 →
  Calls Tryz.prog 91 #[.pointer (some ⟨gb, 0, none⟩), vt, .slice A env.length c, vv] w (TuP w ok B gb nm a b (v.turnN (mapF nm a b) env' t') (ls ++ v.atN env' t' nm)) := by
  intro nm' hsm
  intro t env A c vt vv w ok B gb nm a b ls env' hnmn
  subst hnmn
  revert t env A c vt vv w ok B gb a b ls env'
  intro t env A c vt vv w ok B gb a b ls env' hfnd hT hE hV hok hTB hBw hB ht3 hlen hvok hty hnm ha hb hls
  obtain ⟨hB', ht3', hlen', hno, _⟩ := fnd_spec hB t ht3 hlen
  obtain ⟨P, m, cc, A', c'', hT', hE', HF⟩ := l2Find_at t env A c vt w hT hE hB ht3
  rw [hfnd] at hT' hE' HF hB' ht3' hlen' hno
  simp only at hT' hE' HF hB' ht3' hlen' hno
  rw [hs] at hT' HF
  simp only [Tr.atom] at hT' HF
  obtain ⟨xt, At, nt, ct0, rfl⟩ := hT.form
  obtain ⟨hr1, hr2⟩ := hr nm a b env' hno hty hsm
  rw [hr1, hr2, List.append_nil]
  have hva : ∃ Av nv cv, vv = .agg #[.string (St v.toTr.atom), .slice Av nv cv] := by
    generalize v.toTr = tv at hV
    obtain ⟨sv, psv⟩ := tv
    obtain ⟨A, c, rfl, _⟩ := hV.parts
    exact ⟨_, _, _, rfl⟩
  obtain ⟨Av, nv, cv, rfl⟩ := hva
  have k0 : (s == []) = false := by simpa using hsn
  have k1 : (s == nm) = false := St_ne hsm
  have HBL := Lib.hid hBw
  have HTB := Lib.hid hTB
  have HQ : Hid (∀ w' c d, w'.heap[w.heap.size + 2]? = some (.cells #[c, d] 59 (0, 0)) → Below w.heap.size w w' → TuP w ok B gb nm a b v ls (.returned (.agg #[.string (St v.toTr.atom), .slice Av nv cv])) ((w'.setCell ⟨w.heap.size + 2, 0, none⟩ (.string (St v.toTr.atom))).setCell ⟨w.heap.size + 2, 1, none⟩ (.slice Av nv cv))) := fun w' c d h1 h2 =>
    TuP.fin hok hBw h1 ((hV.up h2).weak fun k hk => .inl hk) (hTB.up h2) (.up h2 hBw)
  clear hT hE hV hB ht3 hlen hvok hT' hE' hr hs hfnd hB' ht3' hlen' hno hok hTB hBw hty hnm ha hb hls hr1 hr2 hsm
  generalize hva : v.toTr.atom = va at *
  generalize TuP w ok B gb nm a b v ls = Q at *
  go_enter Tryz.func91, Tryz.ntmps91
  go_wp2_with (go_at_call 140; (with_reducible refine (HF.out _ (up_alloc (up_alloc (up1 w _) _) _)).mono ?_); rintro e w1 ⟨rfl, hb1⟩; have K0 := block_up hb1 (block_alloc (old2 w (.cells #[.string xt, .slice At nt ct0] 59) (.cells #[.string (St va), .slice Av nv cv] 59)) (.cells #[.string ⟨#[]⟩, .slice none 0 0] 59)); have K1 := block_up hb1 (block_alloc (new2 w (.cells #[.string xt, .slice At nt ct0] 59) (.cells #[.string (St va), .slice Av nv cv] 59)) (.cells #[.string ⟨#[]⟩, .slice none 0 0] 59)); have K2 := block_up hb1 (new3 w (.cells #[.string xt, .slice At nt ct0] 59) (.cells #[.string (St va), .slice Av nv cv] 59) (.cells #[.string ⟨#[]⟩, .slice none 0 0] 59)); have r0 : w1.cell? ⟨w.heap.size, 0, none⟩ = some (.string xt) := block_cell K0 0; have r1 : w1.cell? ⟨w.heap.size, 1, none⟩ = some (.slice At nt ct0) := block_cell K0 1; have g0 := block_free K0 0; have g1 := block_free K0 1; have lr := lt_of_block K0; have HB1 := Lib.hid (up_trans (up_alloc (up_alloc (up1 w _) _) _) hb1); have HK0 := Lib.hid K0; have HK1 := Lib.hid K1; have HK2 := Lib.hid K2; clear hb1 K0 K1 K2)
  obtain ⟨BW, C0, C1, C2⟩ := set_box3 HB1.out HK0.out HK1.out HK2.out (.string (St s)) (.slice P m cc)
  generalize ((w1.setCell ⟨w.heap.size, 0, none⟩ (.string (St s))).setCell ⟨w.heap.size, 1, none⟩ (.slice P m cc)) = W1 at *
  have HBW := Lib.hid BW
  have KW : Hid (KT B w W1) := .up BW HBL.out
  have hsz : w.heap.size + 3 ≤ W1.heap.size := by have := lt_of_block C2; omega
  have HSZ := Lib.hid hsz
  have HC0 := Lib.hid C0
  have HC1 := Lib.hid C1
  have HC2 := Lib.hid C2
  clear BW C0 C1 C2 r0 r1 g0 g1 lr HK0 HK1 HK2 HB1 hsz
  obtain ⟨g, cap, htb, _, _⟩ := HTB.out
  have HS : Hid (∀ w', Below W1.heap.size W1 w' → w'.cell? ⟨w.heap.size, 0, none⟩ = some (.string (St s)) ∧ w'.cell? ⟨gb, 0, none⟩ = some (.string (St nm))) := fun w' h => ⟨cell_up h (block_cell HC0.out 0), cell_up (up_trans HBW.out h) (block_cell htb 0)⟩
  obtain ⟨e0, e1⟩ := HS.out W1 (Below.refl _ _)
  have v0 : W1.cell? ⟨w.heap.size + 1, 0, none⟩ = some (.string (St va)) := block_cell HC1.out 0
  have v1 : W1.cell? ⟨w.heap.size + 1, 1, none⟩ = some (.slice Av nv cv) := block_cell HC1.out 1
  have rc0 : W1.cell? ⟨w.heap.size + 2, 0, none⟩ = some (.string ⟨#[]⟩) := block_cell HC2.out 0
  have rc1 : W1.cell? ⟨w.heap.size + 2, 1, none⟩ = some (.slice none 0 0) := block_cell HC2.out 1
  have fr0 := block_free HC2.out 0
  have fr1 := block_free HC2.out 1
  have lr2 := lt_of_block HC2.out
  clear htb
  go_wp2
  refine wp_region_noPanic ?_
  refine wp_region_held_drew (S := (fun w' => w'.cell? ⟨w.heap.size, 0, none⟩ = some (.string (St s)) ∧ w'.cell? ⟨gb, 0, none⟩ = some (.string (St nm)))) (by kernel_rfl) (by exact HS.out _ (up_drew (Below.refl _ _))) (fun hHeld => ?_)
  refine tk 0 ?_ rfl ?_ ?_
  rotate_left
  · intro W hSW; (try dsimp only at hSW); go_simp; try with_reducible rfl
  try simp only [Act.put, zA, zB, zC, zD, zE, zF]
  refine tk 1 ?_ rfl ?_ ?_
  rotate_left
  · intro W hSW; (try dsimp only at hSW); go_simp; try with_reducible rfl
  try simp only [Act.put, zA, zB, zC, zD, zE, zF]
  refine tk 2 ?_ rfl ?_ ?_
  rotate_left
  · intro W hSW; (try dsimp only at hSW); go_simp; try with_reducible rfl
  try simp only [Act.put, zA, zB, zC, zD, zE, zF]
  refine tk 3 ?_ rfl ?_ ?_
  rotate_left
  · intro W hSW; (try dsimp only at hSW); go_simp; try with_reducible rfl
  try simp only [Act.put, zA, zB, zC, zD, zE, zF]
  refine tk 4 ?_ rfl ?_ ?_
  rotate_left
  · intro W hSW; (try dsimp only at hSW); go_simp; try with_reducible rfl
  try simp only [Act.put, zA, zB, zC, zD, zE, zF]
  refine tk 5 ?_ rfl ?_ ?_
  rotate_left
  · intro W hSW; (try dsimp only at hSW); go_simp; try with_reducible rfl
  try simp only [Act.put, zA, zB, zC, zD, zE, zF]
  refine tk 6 ?_ rfl ?_ ?_
  rotate_left
  · intro W hSW; (try dsimp only at hSW); go_simp; try with_reducible rfl
  try simp only [Act.put, zA, zB, zC, zD, zE, zF]
  refine wpAnyH_done (by kernel_rfl) ?_ _
  refine NoPanic.normal ?_
  go_wp2
  refine bodyPost_ret (v := .agg #[.string (St va), .slice Av nv cv]) (by simp [results, Tryz.results91, go_sem, rc0, rc1, lr2]) rfl ?_
  exact HQ.out W1.drew _ _ HC2.out (up_drew HBW.out)

set_option maxHeartbeats 8000000 in
set_option maxRecDepth 100000 in
theorem l2Turn_name (el : List UInt8) (nm : List UInt8) : ∀ (t : NT) (env : List (List UInt8 × NT)) (A : Option Addr) (c : Nat) (vt vv : Value) (w : World) (ok : Nat → Prop) (B gb : Nat) (a b : Nat) (ls : List (List UInt8)) (env' : List (List UInt8 × NT)), fnd env t = (.name nm, env') →
  TAt w (fun _ => True) t.toTr vt → EnvAt w env A → TAt w ok (V.el el).toTr vv → (∀ k, ok k → k < w.heap.size) → TBx w B gb nm a b ls → B ≤ w.heap.size → EnvB env → t.ok3 → env.length + t.atoms ≤ 100000 → (V.el el).ok → (V.el el).isOfN 100 env' (.name nm) = true → paramB nm = true → a ≤ 99 → b ≤ 99 → ls.length + (V.el el).nodes ≤ 1000000 →
  Calls Tryz.prog 91 #[.pointer (some ⟨gb, 0, none⟩), vt, .slice A env.length c, vv] w (TuP w ok B gb nm a b ((V.el el).turnN (mapF nm a b) env' (.name nm)) (ls ++ (V.el el).atN env' (.name nm) nm)) := by
  intro t env A c vt vv w ok B gb a b ls env' hfnd hT hE hV hok hTB hBw hB ht3 hlen hvok hty hnm ha hb hls
  have hs : (NT.name nm).toTr = .mk nm [] := rfl
  obtain ⟨hB', ht3', hlen', hno, _⟩ := fnd_spec hB t ht3 hlen
  obtain ⟨P, m, cc, A', c'', hT', hE', HF⟩ := l2Find_at t env A c vt w hT hE hB ht3
  rw [hfnd] at hT' hE' HF hB' ht3' hlen' hno
  simp only at hT' hE' HF hB' ht3' hlen' hno
  rw [hs] at hT' HF
  simp only [Tr.atom] at hT' HF
  obtain ⟨xt, At, nt, ct0, rfl⟩ := hT.form
  have hlk := hno nm rfl
  have hsn : nm ≠ [] := ht3'.1
  have hv1 : (V.el el).turnN (mapF nm a b) env' (.name nm) = .el (elT ((a * elN el + b) % 100)) := by simp [V.turnN, hlk, mapF]
  have hv2 : (V.el el).atN env' (.name nm) nm = [el] := by simp [V.atN, V.labsN, hlk]
  rw [hv1, hv2]
  have hva : ∃ Av nv cv, vv = .agg #[.string (St el), .slice Av nv cv] := by
    obtain ⟨A, c, rfl, _⟩ := hV.parts
    exact ⟨_, _, _, rfl⟩
  obtain ⟨Av, nv, cv, rfl⟩ := hva
  have hle : elN el ≤ 99 := by obtain ⟨_, _, _, _, _, h, _⟩ := elem_nums hvok; exact h
  have hnum : elemNum el = (elN el : Int) := by obtain ⟨_, _, _, _, _, _, h⟩ := elem_nums hvok; exact h
  have HEL : Hid (∀ w1, Calls Tryz.prog 64 #[.string (St el)] w1 fun e w' => e = .returned (.int .i64 (elN el : Int)) ∧ w1 = w') := fun w1 => by
    have := l2Element_any (St el) w1
    rwa [show (St el).data.toList = el from rfl, hnum] at this
  generalize hk : elN el = k at *
  have hak : a * k ≤ 99 * 99 := Nat.mul_le_mul ha hle
  have hm1 : IntKind.i64.wrap ((a : Int) * (k : Int)) = ((a * k : Nat) : Int) := by
    rw [IntKind.wrap_i64, ← Int.natCast_mul]; omega
  have hm2 : IntKind.i64.wrap (((a * k : Nat) : Int) + (b : Int)) = ((a * k + b : Nat) : Int) := by rw [IntKind.wrap_i64]; omega
  have hm3 : IntKind.i64.wrap (Int.tmod ((a * k + b : Nat) : Int) 100) = (((a * k + b) % 100 : Nat) : Int) := by
    rw [Int.tmod_eq_emod_of_nonneg (by omega), IntKind.wrap_i64]; omega
  have hm4 : Int.tmod ((a * k + b : Nat) : Int) 100 = (((a * k + b) % 100 : Nat) : Int) := by
    rw [Int.tmod_eq_emod_of_nonneg (by omega)]; omega
  have hm5 : (IntKind.i64.wrap ((a : Int) * (k : Int) + (b : Int))).tmod 100 = (((a * k + b) % 100 : Nat) : Int) := by
    rw [← Int.natCast_mul, hm2, hm4]
  have HDC : Hid (∀ w1, Calls Tryz.prog 148 #[.int .i64 ((IntKind.i64.wrap ((a : Int) * (k : Int) + (b : Int))).tmod 100)] w1 fun e w' => e = .returned (.string (St (decL ((a * k + b) % 100)))) ∧ Below w1.heap.size w1 w') := fun w1 => by
    rw [hm5]
    exact l6Dec_any _ w1 (by omega)
  have hdl : (decL ((a * k + b) % 100)).length ≤ 2 := decL_len 1 _ (by have := Nat.mod_lt (a * k + b) (show 0 < 100 by decide); omega)
  have hsz9 : ¬ 9223372036854775807 < (⟨#[101]⟩ : ByteArray).size + (St (decL ((a * k + b) % 100))).size := by
    show ¬ 9223372036854775807 < 1 + (decL ((a * k + b) % 100)).length
    omega
  have hsz8 : ¬ 9223372036854775807 < 1 + (St (decL ((a * k + b) % 100))).size := by
    show ¬ 9223372036854775807 < 1 + (decL ((a * k + b) % 100)).length
    omega
  have hsz7 : ¬ 9223372036854775807 < 1 + (decL ((a * k + b) % 100)).length := by omega
  have hcat : (⟨#[101]⟩ : ByteArray) ++ St (decL ((a * k + b) % 100)) = St (elT ((a * k + b) % 100)) := St_of (by simp [elT])
  have k0 : (nm == []) = false := by simpa using hsn
  have k1 : (nm == nm) = true := by simp
  have HBL := Lib.hid hBw
  obtain ⟨i0, hi0, hz0, hz1, hz2⟩ := info_parts Tryz.infoStr
  have HLS : Hid (ls.length + 1 ≤ 1000000) := by simp only [V.nodes] at hls; exact hls
  have HQ : Hid (∀ w' c d, w'.heap[w.heap.size + 2]? = some (.cells #[c, d] 59 (0, 0)) → TBx w' B gb nm a b (ls ++ [el]) → KT B w w' → TuP w ok B gb nm a b (.el (elT ((a * k + b) % 100))) (ls ++ [el]) (.returned (.agg #[.string (St (elT ((a * k + b) % 100))), .slice none 0 0])) ((w'.setCell ⟨w.heap.size + 2, 0, none⟩ (.string (St (elT ((a * k + b) % 100))))).setCell ⟨w.heap.size + 2, 1, none⟩ (.slice none 0 0))) := fun w' c d h1 h2 h3 =>
    TuP.fin hok hBw h1 (leafT w' _ _) h2 h3
  have HTB := Lib.hid hTB
  clear hT hE hV hB ht3 hlen hvok hT' hE' hs hfnd hB' ht3' hlen' hno hok hTB hBw hty hnm ha hb hls hv1 hv2 hk hlk hsn hnum hdl hak hm2 hm3 hm4 hm5
  generalize TuP w ok B gb nm a b (.el (elT ((a * k + b) % 100))) (ls ++ [el]) = Q at *
  rw [← hcat] at HQ
  clear hcat
  generalize decL ((a * k + b) % 100) = dl at *
  generalize (a * k + b) % 100 = kk at *
  go_enter Tryz.func91, Tryz.ntmps91
  go_wp2_with (go_at_call 140; (with_reducible refine (HF.out _ (up_alloc (up_alloc (up1 w _) _) _)).mono ?_); rintro e w1 ⟨rfl, hb1⟩; have K0 := block_up hb1 (block_alloc (old2 w (.cells #[.string xt, .slice At nt ct0] 59) (.cells #[.string (St el), .slice Av nv cv] 59)) (.cells #[.string ⟨#[]⟩, .slice none 0 0] 59)); have K1 := block_up hb1 (block_alloc (new2 w (.cells #[.string xt, .slice At nt ct0] 59) (.cells #[.string (St el), .slice Av nv cv] 59)) (.cells #[.string ⟨#[]⟩, .slice none 0 0] 59)); have K2 := block_up hb1 (new3 w (.cells #[.string xt, .slice At nt ct0] 59) (.cells #[.string (St el), .slice Av nv cv] 59) (.cells #[.string ⟨#[]⟩, .slice none 0 0] 59)); have r0 : w1.cell? ⟨w.heap.size, 0, none⟩ = some (.string xt) := block_cell K0 0; have r1 : w1.cell? ⟨w.heap.size, 1, none⟩ = some (.slice At nt ct0) := block_cell K0 1; have g0 := block_free K0 0; have g1 := block_free K0 1; have lr := lt_of_block K0; have HB1 := Lib.hid (up_trans (up_alloc (up_alloc (up1 w _) _) _) hb1); have HK0 := Lib.hid K0; have HK1 := Lib.hid K1; have HK2 := Lib.hid K2; clear hb1 K0 K1 K2)
  obtain ⟨BW, C0, C1, C2⟩ := set_box3 HB1.out HK0.out HK1.out HK2.out (.string (St nm)) (.slice P m cc)
  generalize ((w1.setCell ⟨w.heap.size, 0, none⟩ (.string (St nm))).setCell ⟨w.heap.size, 1, none⟩ (.slice P m cc)) = W1 at *
  have HBW := Lib.hid BW
  have KW : Hid (KT B w W1) := .up BW HBL.out
  have hsz : w.heap.size + 3 ≤ W1.heap.size := by have := lt_of_block C2; omega
  have HSZ := Lib.hid hsz
  have HC0 := Lib.hid C0
  have HC1 := Lib.hid C1
  have HC2 := Lib.hid C2
  clear BW C0 C1 C2 r0 r1 g0 g1 lr HK0 HK1 HK2 HB1 hsz
  have HTB1 := Lib.hid (HTB.out.up HBW.out)
  obtain ⟨g, cap, htb, how, hBg⟩ := HTB1.out
  have HBL1 : Hid (B ≤ W1.heap.size) := Nat.le_trans HBL.out HBW.out.size
  have HTBB := Lib.hid htb
  have HBG := Lib.hid hBg
  obtain ⟨n0, hn0⟩ : ∃ n0, n0 = ls.length := ⟨_, rfl⟩
  have HN0 := Lib.hid hn0
  rw [← hn0] at htb
  have HOW : Hid (W1.ownsRow B 9 1 (.slice (some ⟨g, 0, none⟩) n0 cap) n0 (strs ls)) := by rw [hn0]; exact how
  have HTB0 : Hid (W1.heap[gb]? = some (.cells #[.string (St nm), .int .i64 a, .int .i64 b, .slice (some ⟨g, 0, none⟩) n0 cap] 115 (0, 0))) := htb
  rw [← hn0] at HLS
  have hne : ¬ gb = g := by
    rintro rfl
    rcases how.2 with ⟨e1, _⟩ | ⟨g', c', cur, e1, _, e2, _⟩
    · cases e1
    · cases e1
      rw [htb] at e2
      simp at e2
  have HAPP : Hid (∀ W2 w4 g2 c2, Below W1.heap.size W1 W2 → w4.ownsRow B 9 1 (.slice (some ⟨g2, 0, none⟩) (n0 + 1) c2) (n0 + 1) (strs ls ++ [.string (St el)]) → W2.grownBy w4 (some g) → Below B W2 w4 → Hid (KT B W1 w4) ∧ Hid (w4.heap[gb]? = some (.cells #[.string (St nm), .int .i64 a, .int .i64 b, .slice (some ⟨g, 0, none⟩) n0 cap] 115 (0, 0)))) := fun W2 w4 g2 c2 hb2 ho hg hbl => by
    have how2 := how.up hb2
    refine ⟨?_, ?_⟩
    · exact (KT.up hb2 HBL1.out).trans ⟨Keeps.grown how2 hg (by decide), Keeps.grown how2 hg (by decide), hbl⟩
    · rw [hg.block gb (Nat.lt_of_lt_of_le (lt_of_block htb) hb2.size) (by simpa using hne)]
      exact block_up hb2 htb
  have HS5 : Hid (∀ w', KT B W1 w' → w'.heap[gb]? = some (.cells #[.string (St nm), .int .i64 a, .int .i64 b, .slice (some ⟨g, 0, none⟩) n0 cap] 115 (0, 0)) → w'.cell? ⟨gb, 0, none⟩ = some (.string (St nm)) ∧ w'.cell? ⟨w.heap.size + 1, 0, none⟩ = some (.string (St el))) := fun w' h h2 => ⟨block_cell h2 0, block_cell (h.tr _ _ _ HC1.out) 0⟩
  have HST : Hid (∀ w4 g2 c2, KT B W1 w4 → w4.heap[gb]? = some (.cells #[.string (St nm), .int .i64 a, .int .i64 b, .slice (some ⟨g, 0, none⟩) n0 cap] 115 (0, 0)) → w4.ownsRow B 9 1 (.slice (some ⟨g2, 0, none⟩) (n0 + 1) c2) (n0 + 1) (strs ls ++ [.string (St el)]) → KT B W1 (w4.setCell ⟨gb, 3, none⟩ (.slice (some ⟨g2, 0, none⟩) (n0 + 1) c2)) ∧ TBx (w4.setCell ⟨gb, 3, none⟩ (.slice (some ⟨g2, 0, none⟩) (n0 + 1) c2)) B gb nm a b (ls ++ [el]) ∧ (w4.setCell ⟨gb, 3, none⟩ (.slice (some ⟨g2, 0, none⟩) (n0 + 1) c2)).heap[gb]? = some (.cells #[.string (St nm), .int .i64 a, .int .i64 b, .slice (some ⟨g2, 0, none⟩) (n0 + 1) c2] 115 (0, 0))) := fun w4 g2 c2 hk h2 ho => by
    have hbs : (w4.setCell ⟨gb, 3, none⟩ (.slice (some ⟨g2, 0, none⟩) (n0 + 1) c2)).heap[gb]? = some (.cells #[.string (St nm), .int .i64 a, .int .i64 b, .slice (some ⟨g2, 0, none⟩) (n0 + 1) c2] 115 (0, 0)) := block_set h2 3 _
    refine ⟨hk.trans ⟨Keeps.set_ h2 (by decide) _, Keeps.set_ h2 (by decide) _, set0 (Below.refl _ _) HBG.out⟩, ?_, hbs⟩
    have hn2 : ¬ g2 = gb := by
      rintro rfl
      rcases ho.2 with ⟨e1, _⟩ | ⟨g', c', cur, e1, _, e2, _⟩
      · cases e1
      · cases e1
        rw [h2] at e2
        simp at e2
    refine ⟨g2, c2, ?_, ?_, HBG.out⟩
    · rw [hbs]; simp [← HN0.out]
    · have ho2 : SOwn w4 B (ls ++ [el]) g2 c2 := SOwn.of ho (by simp [← HN0.out]) (by simp [strs])
      refine World.ownsRow.kept ho2 (row := some gb) ?_ (.inr (by simp [Value.ownBlock]; exact hn2))
      exact ⟨rfl, rfl, rfl, by simp [World.setCell], fun j hj hne => Below.heap_setCell _ ⟨gb, 3, none⟩ _ j (by simpa using hne)⟩
  obtain ⟨s0, s1⟩ := HS5.out W1 (.up (Below.refl _ _) HBL1.out) HTB0.out
  have e0 : W1.cell? ⟨w.heap.size, 0, none⟩ = some (.string (St nm)) := block_cell HC0.out 0
  have rc0 : W1.cell? ⟨w.heap.size + 2, 0, none⟩ = some (.string ⟨#[]⟩) := block_cell HC2.out 0
  have b3 : W1.cell? ⟨gb, 3, none⟩ = some (.slice (some ⟨g, 0, none⟩) n0 cap) := block_cell HTB0.out 3
  have lgb : gb < W1.heap.size := lt_of_block htb
  have ngb : ¬ gb = w.heap.size + 2 := by
    intro h
    have h2 := HC2.out
    rw [← h, htb] at h2
    simp at h2
  clear htb how hBg hne hn0
  go_wp2
  refine wp_region_noPanic ?_
  refine wp_region_held_drew (S := (fun w' => w'.cell? ⟨w.heap.size, 0, none⟩ = some (.string (St nm)) ∧ w'.cell? ⟨gb, 0, none⟩ = some (.string (St nm)))) (by kernel_rfl) (by exact ⟨cell_up (up_drew (Below.refl _ _)) e0, cell_up (up_drew (Below.refl _ _)) s0⟩) (fun hHeld => ?_)
  refine tk 0 ?_ rfl ?_ ?_
  rotate_left
  · intro W hSW; (try dsimp only at hSW); go_simp; try with_reducible rfl
  try simp only [Act.put, zA, zB, zC, zD, zE, zF]
  refine tk 1 ?_ rfl ?_ ?_
  rotate_left
  · intro W hSW; (try dsimp only at hSW); go_simp; try with_reducible rfl
  try simp only [Act.put, zA, zB, zC, zD, zE, zF]
  refine tk 2 ?_ rfl ?_ ?_
  rotate_left
  · intro W hSW; (try dsimp only at hSW); go_simp; try with_reducible rfl
  try simp only [Act.put, zA, zB, zC, zD, zE, zF]
  refine tk 3 ?_ rfl ?_ ?_
  rotate_left
  · intro W hSW; (try dsimp only at hSW); go_simp; try with_reducible rfl
  try simp only [Act.put, zA, zB, zC, zD, zE, zF]
  refine tk 4 ?_ rfl ?_ ?_
  rotate_left
  · intro W hSW; (try dsimp only at hSW); go_simp; try with_reducible rfl
  try simp only [Act.put, zA, zB, zC, zD, zE, zF]
  refine tk 5 ?_ rfl ?_ ?_
  rotate_left
  · intro W hSW; (try dsimp only at hSW); go_simp; try with_reducible rfl
  try simp only [Act.put, zA, zB, zC, zD, zE, zF]
  refine tk 6 ?_ rfl ?_ ?_
  rotate_left
  · intro W hSW; (try dsimp only at hSW); go_simp; try with_reducible rfl
  try simp only [Act.put, zA, zB, zC, zD, zE, zF]
  refine wpAnyH_done (by kernel_rfl) ?_ _
  refine NoPanic.normal ?_
  go_wp2
  refine wp_region_noPanic ?_
  refine wp_region_held_drew (S := (fun w' => w'.cell? ⟨w.heap.size + 1, 0, none⟩ = some (.string (St el)))) (by kernel_rfl) (by exact cell_up (up_drew (Below.refl _ _)) s1) (fun hHeld => ?_)
  refine tk 0 ?_ rfl ?_ ?_
  rotate_left
  · intro W hSW; (try dsimp only at hSW); go_simp; try with_reducible rfl
  try simp only [Act.put, zA, zB, zC, zD, zE, zF]
  refine tk 1 ?_ rfl ?_ ?_
  rotate_left
  · intro W hSW; (try dsimp only at hSW); go_simp; try with_reducible rfl
  try simp only [Act.put, zA, zB, zC, zD, zE, zF]
  refine tk 2 ?_ rfl ?_ ?_
  rotate_left
  · intro W hSW; (try dsimp only at hSW); go_simp; try with_reducible rfl
  try simp only [Act.put, zA, zB, zC, zD, zE, zF]
  refine tk 3 ?_ rfl ?_ ?_
  rotate_left
  · intro W hSW; (try dsimp only at hSW); go_simp; try with_reducible rfl
  try simp only [Act.put, zA, zB, zC, zD, zE, zF]
  refine tk 5 ?_ rfl ?_ ?_
  rotate_left
  · intro W hSW; (try dsimp only at hSW); go_simp; try with_reducible rfl
  try simp only [Act.put, zA, zB, zC, zD, zE, zF]
  refine tk 6 ?_ rfl ?_ ?_
  rotate_left
  · intro W hSW; (try dsimp only at hSW); go_simp; try with_reducible rfl
  try simp only [Act.put, zA, zB, zC, zD, zE, zF]
  refine wpAnyH_ready (rs := [4, 7]) (by kernel_rfl) (by simp) ?_
  refine AllReadyH.cons rfl (fun K hK => ?_) (AllReadyH.cons rfl (fun K hK => ?_) AllReadyH.nil)
  · skip
    go_simp
    refine hK.out _ _ (by exact cell_up (by repeat (first | exact Below.refl _ _ | refine up_drew ?_ | refine up_alloc ?_ _)) s1) (fun hHeld => ?_)
    clear hK
    try simp only [Act.put, zA, zB, zC, zD, zE, zF]
    refine wpAnyH_ready (rs := [7]) (by kernel_rfl) (by simp) ?_
    refine AllReadyH.cons rfl (fun K hK => ?_) AllReadyH.nil
    go_simp
    refine hK.out _ _ (by exact cell_up (by repeat (first | exact Below.refl _ _ | refine up_drew ?_ | refine up_alloc ?_ _)) s1) (fun hHeld => ?_)
    clear hK
    try simp only [Act.put, zA, zB, zC, zD, zE, zF]
    refine wpAnyH_ready (rs := [8]) (by kernel_rfl) (by simp) ?_
    refine AllReadyH.cons rfl (fun K hK => ?_) AllReadyH.nil
    refine step_append_row _ rfl _ _ 38 rfl B 9 i0 (.string ⟨#[]⟩) 16 Tryz.underlying38 hi0 hz0 hz1 hz2 rfl g n0 cap (strs ls) rfl (own_heap (W := W1.alloc _) rfl (World.ownsRow.alloc HOW.out _)) (some ⟨_, 0, none⟩) 1 1 [.string (St el)] rfl rfl (row_one (block_cell (block_new W1 _) 0)) (by simp [Value.oneCell']) (by have := HLS.out; omega) (by decide) (Nat.le_trans HBL1.out (Below.size (by repeat (first | exact Below.refl _ _ | refine up_drew ?_ | refine up_alloc ?_ _)))) (n0 + 1) rfl (strs ls ++ [.string (St el)]) rfl ?_
    intro g2 c2 w4 hown hgrow hbel hat
    obtain ⟨KT4, HB4⟩ := HAPP.out _ w4 g2 c2 (by repeat (first | exact Below.refl _ _ | refine up_drew ?_ | refine up_alloc ?_ _)) hown hgrow hbel
    have q3 : w4.cell? ⟨gb, 3, none⟩ = some (.slice (some ⟨g, 0, none⟩) n0 cap) := block_cell HB4.out 3
    have f3 := block_free HB4.out 3
    have l3 := lt_of_block HB4.out
    have HO4 := Lib.hid hown
    clear hown hgrow hbel hat
    refine hK.out _ _ (by exact block_cell (KT4.out.tr _ _ _ HC1.out) 0) (fun hHeld => ?_)
    clear hK
    try simp only [Act.put, zA, zB, zC, zD, zE, zF]
    refine tk 9 ?_ rfl ?_ ?_
    rotate_left
    · intro W hSW; (try dsimp only at hSW); go_simp; try with_reducible rfl
    try simp only [Act.put, zA, zB, zC, zD, zE, zF]
    refine tk 10 ?_ rfl ?_ ?_
    rotate_left
    · intro W hSW; (try dsimp only at hSW); go_simp; try with_reducible rfl
    try simp only [Act.put, zA, zB, zC, zD, zE, zF]
    refine wpAnyH_ready (rs := [11]) (by kernel_rfl) (by simp) ?_
    refine AllReadyH.cons rfl (fun K hK => ?_) AllReadyH.nil
    go_simp
    refine hK.out _ _ (by exact block_cell ((HST.out w4 g2 c2 KT4.out HB4.out HO4.out).1.tr _ _ _ HC1.out) 0) (fun hHeld => ?_)
    clear hK
    try simp only [Act.put, zA, zB, zC, zD, zE, zF]
    refine wpAnyH_done (by kernel_rfl) ?_ _
    refine NoPanic.normal ?_
    go_wp2
    obtain ⟨KT5, HTB5, HB5⟩ := HST.out w4 g2 c2 KT4.out HB4.out HO4.out
    generalize (w4.setCell ⟨gb, 3, none⟩ (.slice (some ⟨g2, 0, none⟩) (n0 + 1) c2)) = W5 at *
    have y1 : W5.cell? ⟨gb, 1, none⟩ = some (.int .i64 a) := block_cell HB5 1
    have y2 : W5.cell? ⟨gb, 2, none⟩ = some (.int .i64 b) := block_cell HB5 2
    have y3 : W5.cell? ⟨w.heap.size + 1, 0, none⟩ = some (.string (St el)) := block_cell (KT5.tr _ _ _ HC1.out) 0
    have R5 := Lib.hid (KT5.tr _ _ _ HC2.out)
    have HKT5 := Lib.hid KT5
    have HTB5' := Lib.hid HTB5
    refine wp_region_noPanic ?_
    refine wp_region_held_drew (S := (fun w' => w'.cell? ⟨gb, 1, none⟩ = some (.int .i64 a) ∧ w'.cell? ⟨gb, 2, none⟩ = some (.int .i64 b) ∧ w'.cell? ⟨w.heap.size + 1, 0, none⟩ = some (.string (St el)))) (by kernel_rfl) (by exact ⟨cell_up (up_drew (Below.refl _ _)) y1, cell_up (up_drew (Below.refl _ _)) y2, cell_up (up_drew (Below.refl _ _)) y3⟩) (fun hHeld => ?_)
    refine tk 0 ?_ rfl ?_ ?_
    rotate_left
    · intro W hSW; (try dsimp only at hSW); go_simp; try with_reducible rfl
    try simp only [Act.put, zA, zB, zC, zD, zE, zF]
    refine tk 1 ?_ rfl ?_ ?_
    rotate_left
    · intro W hSW; (try dsimp only at hSW); go_simp; try with_reducible rfl
    try simp only [Act.put, zA, zB, zC, zD, zE, zF]
    refine tk 2 ?_ rfl ?_ ?_
    rotate_left
    · intro W hSW; (try dsimp only at hSW); go_simp; try with_reducible rfl
    try simp only [Act.put, zA, zB, zC, zD, zE, zF]
    refine tk 3 ?_ rfl ?_ ?_
    rotate_left
    · intro W hSW; (try dsimp only at hSW); go_simp; try with_reducible rfl
    try simp only [Act.put, zA, zB, zC, zD, zE, zF]
    refine tk 4 ?_ rfl ?_ ?_
    rotate_left
    · intro W hSW; (try dsimp only at hSW); go_simp; try with_reducible rfl
    try simp only [Act.put, zA, zB, zC, zD, zE, zF]
    refine tk 5 ?_ rfl ?_ ?_
    rotate_left
    · intro W hSW; (try dsimp only at hSW); go_simp; try with_reducible rfl
    try simp only [Act.put, zA, zB, zC, zD, zE, zF]
    refine tk 8 ?_ rfl ?_ ?_
    rotate_left
    · intro W hSW; (try dsimp only at hSW); go_simp; try with_reducible rfl
    try simp only [Act.put, zA, zB, zC, zD, zE, zF]
    refine tk 9 ?_ rfl ?_ ?_
    rotate_left
    · intro W hSW; (try dsimp only at hSW); go_simp; try with_reducible rfl
    try simp only [Act.put, zA, zB, zC, zD, zE, zF]
    refine tk 10 ?_ rfl ?_ ?_
    rotate_left
    · intro W hSW; (try dsimp only at hSW); go_simp; try with_reducible rfl
    try simp only [Act.put, zA, zB, zC, zD, zE, zF]
    refine tk 11 ?_ rfl ?_ ?_
    rotate_left
    · intro W hSW; (try dsimp only at hSW); go_simp; try with_reducible rfl
    try simp only [Act.put, zA, zB, zC, zD, zE, zF]
    refine wpAnyH_ready (rs := [6]) (by kernel_rfl) (by simp) ?_
    refine AllReadyH.cons rfl (fun K hK => ?_) AllReadyH.nil
    go_simp
    go_at_call 64
    (with_reducible refine (HEL.out _).mono ?_)
    rintro e w6 ⟨rfl, rfl⟩
    refine hK.out _ _ (by exact ⟨cell_up (up_drew (Below.refl _ _)) y1, cell_up (up_drew (Below.refl _ _)) y2, cell_up (up_drew (Below.refl _ _)) y3⟩) (fun hHeld => ?_)
    clear hK
    try simp only [Act.put, zA, zB, zC, zD, zE, zF]
    refine tk 7 ?_ rfl ?_ ?_
    rotate_left
    · intro W hSW; (try dsimp only at hSW); go_simp; try with_reducible rfl
    try simp only [Act.put, zA, zB, zC, zD, zE, zF]
    refine tk 12 ?_ rfl ?_ ?_
    rotate_left
    · intro W hSW; (try dsimp only at hSW); go_simp; try with_reducible rfl
    try simp only [Act.put, zA, zB, zC, zD, zE, zF]
    refine tk 13 ?_ rfl ?_ ?_
    rotate_left
    · intro W hSW; (try dsimp only at hSW); go_simp; try with_reducible rfl
    try simp only [Act.put, zA, zB, zC, zD, zE, zF]
    refine wpAnyH_ready (rs := [14]) (by kernel_rfl) (by simp) ?_
    refine AllReadyH.cons rfl (fun K hK => ?_) AllReadyH.nil
    go_simp
    go_at_call 148
    (with_reducible refine (HDC.out _).mono ?_)
    rintro e w7 ⟨rfl, hb7⟩
    have K7 : Hid (Below W5.heap.size W5 w7) := up_trans (up_drew (Below.refl _ _)) hb7
    have R7 := block_up K7.out R5.out
    have rc0 := block_cell R7 0
    have rc1 := block_cell R7 1
    have fr0 := block_free R7 0
    have fr1 := block_free R7 1
    have lr7 := lt_of_block R7
    have HR7 := Lib.hid R7
    clear hb7 R7
    refine hK.out _ _ (by exact ⟨cell_up K7.out y1, cell_up K7.out y2, cell_up K7.out y3⟩) (fun hHeld => ?_)
    clear hK
    try simp only [Act.put, zA, zB, zC, zD, zE, zF]
    refine tk 15 ?_ rfl ?_ ?_
    rotate_left
    · intro W hSW; (try dsimp only at hSW); go_simp; try with_reducible rfl
    try simp only [Act.put, zA, zB, zC, zD, zE, zF]
    refine tk 16 ?_ rfl ?_ ?_
    rotate_left
    · intro W hSW; (try dsimp only at hSW); go_simp; try with_reducible rfl
    try simp only [Act.put, zA, zB, zC, zD, zE, zF]
    refine wpAnyH_ready (rs := [17]) (by kernel_rfl) (by simp) ?_
    refine AllReadyH.cons rfl (fun K hK => ?_) AllReadyH.nil
    go_simp
    refine hK.out _ _ (by exact ⟨(cell_box ngb _ _).trans (cell_up K7.out y1), (cell_box ngb _ _).trans (cell_up K7.out y2), (cell_box (by omega) _ _).trans (cell_up K7.out y3)⟩) (fun hHeld => ?_)
    clear hK
    try simp only [Act.put, zA, zB, zC, zD, zE, zF]
    refine wpAnyH_done (by kernel_rfl) ?_ _
    refine NoPanic.normal ?_
    go_wp2
    refine bodyPost_ret (v := .agg #[.string (⟨#[101]⟩ ++ St dl), .slice none 0 0]) (by simp [results, Tryz.results91, go_sem, rc0, rc1, lr7]) rfl ?_
    exact HQ.out w7 _ _ HR7.out (HTB5'.out.up K7.out) (KW.out.trans (HKT5.out.trans (.up K7.out (Nat.le_trans HBL1.out HKT5.out.size))))
  · skip
    go_simp
    refine hK.out _ _ (by exact cell_up (by repeat (first | exact Below.refl _ _ | refine up_drew ?_ | refine up_alloc ?_ _)) s1) (fun hHeld => ?_)
    clear hK
    try simp only [Act.put, zA, zB, zC, zD, zE, zF]
    refine wpAnyH_ready (rs := [4]) (by kernel_rfl) (by simp) ?_
    refine AllReadyH.cons rfl (fun K hK => ?_) AllReadyH.nil
    go_simp
    refine hK.out _ _ (by exact cell_up (by repeat (first | exact Below.refl _ _ | refine up_drew ?_ | refine up_alloc ?_ _)) s1) (fun hHeld => ?_)
    clear hK
    try simp only [Act.put, zA, zB, zC, zD, zE, zF]
    refine wpAnyH_ready (rs := [8]) (by kernel_rfl) (by simp) ?_
    refine AllReadyH.cons rfl (fun K hK => ?_) AllReadyH.nil
    refine step_append_row _ rfl _ _ 38 rfl B 9 i0 (.string ⟨#[]⟩) 16 Tryz.underlying38 hi0 hz0 hz1 hz2 rfl g n0 cap (strs ls) rfl (own_heap (W := W1.alloc _) rfl (World.ownsRow.alloc HOW.out _)) (some ⟨_, 0, none⟩) 1 1 [.string (St el)] rfl rfl (row_one (block_cell (block_new W1 _) 0)) (by simp [Value.oneCell']) (by have := HLS.out; omega) (by decide) (Nat.le_trans HBL1.out (Below.size (by repeat (first | exact Below.refl _ _ | refine up_drew ?_ | refine up_alloc ?_ _)))) (n0 + 1) rfl (strs ls ++ [.string (St el)]) rfl ?_
    intro g2 c2 w4 hown hgrow hbel hat
    obtain ⟨KT4, HB4⟩ := HAPP.out _ w4 g2 c2 (by repeat (first | exact Below.refl _ _ | refine up_drew ?_ | refine up_alloc ?_ _)) hown hgrow hbel
    have q3 : w4.cell? ⟨gb, 3, none⟩ = some (.slice (some ⟨g, 0, none⟩) n0 cap) := block_cell HB4.out 3
    have f3 := block_free HB4.out 3
    have l3 := lt_of_block HB4.out
    have HO4 := Lib.hid hown
    clear hown hgrow hbel hat
    refine hK.out _ _ (by exact block_cell (KT4.out.tr _ _ _ HC1.out) 0) (fun hHeld => ?_)
    clear hK
    try simp only [Act.put, zA, zB, zC, zD, zE, zF]
    refine tk 9 ?_ rfl ?_ ?_
    rotate_left
    · intro W hSW; (try dsimp only at hSW); go_simp; try with_reducible rfl
    try simp only [Act.put, zA, zB, zC, zD, zE, zF]
    refine tk 10 ?_ rfl ?_ ?_
    rotate_left
    · intro W hSW; (try dsimp only at hSW); go_simp; try with_reducible rfl
    try simp only [Act.put, zA, zB, zC, zD, zE, zF]
    refine wpAnyH_ready (rs := [11]) (by kernel_rfl) (by simp) ?_
    refine AllReadyH.cons rfl (fun K hK => ?_) AllReadyH.nil
    go_simp
    refine hK.out _ _ (by exact block_cell ((HST.out w4 g2 c2 KT4.out HB4.out HO4.out).1.tr _ _ _ HC1.out) 0) (fun hHeld => ?_)
    clear hK
    try simp only [Act.put, zA, zB, zC, zD, zE, zF]
    refine wpAnyH_done (by kernel_rfl) ?_ _
    refine NoPanic.normal ?_
    go_wp2
    obtain ⟨KT5, HTB5, HB5⟩ := HST.out w4 g2 c2 KT4.out HB4.out HO4.out
    generalize (w4.setCell ⟨gb, 3, none⟩ (.slice (some ⟨g2, 0, none⟩) (n0 + 1) c2)) = W5 at *
    have y1 : W5.cell? ⟨gb, 1, none⟩ = some (.int .i64 a) := block_cell HB5 1
    have y2 : W5.cell? ⟨gb, 2, none⟩ = some (.int .i64 b) := block_cell HB5 2
    have y3 : W5.cell? ⟨w.heap.size + 1, 0, none⟩ = some (.string (St el)) := block_cell (KT5.tr _ _ _ HC1.out) 0
    have R5 := Lib.hid (KT5.tr _ _ _ HC2.out)
    have HKT5 := Lib.hid KT5
    have HTB5' := Lib.hid HTB5
    refine wp_region_noPanic ?_
    refine wp_region_held_drew (S := (fun w' => w'.cell? ⟨gb, 1, none⟩ = some (.int .i64 a) ∧ w'.cell? ⟨gb, 2, none⟩ = some (.int .i64 b) ∧ w'.cell? ⟨w.heap.size + 1, 0, none⟩ = some (.string (St el)))) (by kernel_rfl) (by exact ⟨cell_up (up_drew (Below.refl _ _)) y1, cell_up (up_drew (Below.refl _ _)) y2, cell_up (up_drew (Below.refl _ _)) y3⟩) (fun hHeld => ?_)
    refine tk 0 ?_ rfl ?_ ?_
    rotate_left
    · intro W hSW; (try dsimp only at hSW); go_simp; try with_reducible rfl
    try simp only [Act.put, zA, zB, zC, zD, zE, zF]
    refine tk 1 ?_ rfl ?_ ?_
    rotate_left
    · intro W hSW; (try dsimp only at hSW); go_simp; try with_reducible rfl
    try simp only [Act.put, zA, zB, zC, zD, zE, zF]
    refine tk 2 ?_ rfl ?_ ?_
    rotate_left
    · intro W hSW; (try dsimp only at hSW); go_simp; try with_reducible rfl
    try simp only [Act.put, zA, zB, zC, zD, zE, zF]
    refine tk 3 ?_ rfl ?_ ?_
    rotate_left
    · intro W hSW; (try dsimp only at hSW); go_simp; try with_reducible rfl
    try simp only [Act.put, zA, zB, zC, zD, zE, zF]
    refine tk 4 ?_ rfl ?_ ?_
    rotate_left
    · intro W hSW; (try dsimp only at hSW); go_simp; try with_reducible rfl
    try simp only [Act.put, zA, zB, zC, zD, zE, zF]
    refine tk 5 ?_ rfl ?_ ?_
    rotate_left
    · intro W hSW; (try dsimp only at hSW); go_simp; try with_reducible rfl
    try simp only [Act.put, zA, zB, zC, zD, zE, zF]
    refine tk 8 ?_ rfl ?_ ?_
    rotate_left
    · intro W hSW; (try dsimp only at hSW); go_simp; try with_reducible rfl
    try simp only [Act.put, zA, zB, zC, zD, zE, zF]
    refine tk 9 ?_ rfl ?_ ?_
    rotate_left
    · intro W hSW; (try dsimp only at hSW); go_simp; try with_reducible rfl
    try simp only [Act.put, zA, zB, zC, zD, zE, zF]
    refine tk 10 ?_ rfl ?_ ?_
    rotate_left
    · intro W hSW; (try dsimp only at hSW); go_simp; try with_reducible rfl
    try simp only [Act.put, zA, zB, zC, zD, zE, zF]
    refine tk 11 ?_ rfl ?_ ?_
    rotate_left
    · intro W hSW; (try dsimp only at hSW); go_simp; try with_reducible rfl
    try simp only [Act.put, zA, zB, zC, zD, zE, zF]
    refine wpAnyH_ready (rs := [6]) (by kernel_rfl) (by simp) ?_
    refine AllReadyH.cons rfl (fun K hK => ?_) AllReadyH.nil
    go_simp
    go_at_call 64
    (with_reducible refine (HEL.out _).mono ?_)
    rintro e w6 ⟨rfl, rfl⟩
    refine hK.out _ _ (by exact ⟨cell_up (up_drew (Below.refl _ _)) y1, cell_up (up_drew (Below.refl _ _)) y2, cell_up (up_drew (Below.refl _ _)) y3⟩) (fun hHeld => ?_)
    clear hK
    try simp only [Act.put, zA, zB, zC, zD, zE, zF]
    refine tk 7 ?_ rfl ?_ ?_
    rotate_left
    · intro W hSW; (try dsimp only at hSW); go_simp; try with_reducible rfl
    try simp only [Act.put, zA, zB, zC, zD, zE, zF]
    refine tk 12 ?_ rfl ?_ ?_
    rotate_left
    · intro W hSW; (try dsimp only at hSW); go_simp; try with_reducible rfl
    try simp only [Act.put, zA, zB, zC, zD, zE, zF]
    refine tk 13 ?_ rfl ?_ ?_
    rotate_left
    · intro W hSW; (try dsimp only at hSW); go_simp; try with_reducible rfl
    try simp only [Act.put, zA, zB, zC, zD, zE, zF]
    refine wpAnyH_ready (rs := [14]) (by kernel_rfl) (by simp) ?_
    refine AllReadyH.cons rfl (fun K hK => ?_) AllReadyH.nil
    go_simp
    go_at_call 148
    (with_reducible refine (HDC.out _).mono ?_)
    rintro e w7 ⟨rfl, hb7⟩
    have K7 : Hid (Below W5.heap.size W5 w7) := up_trans (up_drew (Below.refl _ _)) hb7
    have R7 := block_up K7.out R5.out
    have rc0 := block_cell R7 0
    have rc1 := block_cell R7 1
    have fr0 := block_free R7 0
    have fr1 := block_free R7 1
    have lr7 := lt_of_block R7
    have HR7 := Lib.hid R7
    clear hb7 R7
    refine hK.out _ _ (by exact ⟨cell_up K7.out y1, cell_up K7.out y2, cell_up K7.out y3⟩) (fun hHeld => ?_)
    clear hK
    try simp only [Act.put, zA, zB, zC, zD, zE, zF]
    refine tk 15 ?_ rfl ?_ ?_
    rotate_left
    · intro W hSW; (try dsimp only at hSW); go_simp; try with_reducible rfl
    try simp only [Act.put, zA, zB, zC, zD, zE, zF]
    refine tk 16 ?_ rfl ?_ ?_
    rotate_left
    · intro W hSW; (try dsimp only at hSW); go_simp; try with_reducible rfl
    try simp only [Act.put, zA, zB, zC, zD, zE, zF]
    refine wpAnyH_ready (rs := [17]) (by kernel_rfl) (by simp) ?_
    refine AllReadyH.cons rfl (fun K hK => ?_) AllReadyH.nil
    go_simp
    refine hK.out _ _ (by exact ⟨(cell_box ngb _ _).trans (cell_up K7.out y1), (cell_box ngb _ _).trans (cell_up K7.out y2), (cell_box (by omega) _ _).trans (cell_up K7.out y3)⟩) (fun hHeld => ?_)
    clear hK
    try simp only [Act.put, zA, zB, zC, zD, zE, zF]
    refine wpAnyH_done (by kernel_rfl) ?_ _
    refine NoPanic.normal ?_
    go_wp2
    refine bodyPost_ret (v := .agg #[.string (⟨#[101]⟩ ++ St dl), .slice none 0 0]) (by simp [results, Tryz.results91, go_sem, rc0, rc1, lr7]) rfl ?_
    exact HQ.out w7 _ _ HR7.out (HTB5'.out.up K7.out) (KW.out.trans (HKT5.out.trans (.up K7.out (Nat.le_trans HBL1.out HKT5.out.size))))

/-- What the two parts of a list give, while trees stay. -/
theorem two_keeps {w : World} {ok : Nat → Prop} {h : List UInt8} {q : List Tr} {a : Tr} {v : Value} (hp : TAt w ok (.mk [] [.mk h q, a]) v) :
    ∃ bl o c, v = .agg #[.string (St []), .slice (some ⟨bl, o, none⟩) 2 c] ∧ bl < w.heap.size ∧ ∃ A2 n2 c2, Hid (∀ w1, Keeps 59 w w1 → w1.cell? ⟨bl, o + 2, none⟩ = some (.string (St a.atom)) ∧ w1.cell? ⟨bl, o + 3, none⟩ = some (.slice A2 n2 c2) ∧ Hid (TAt w1 ok a (.agg #[.string (St a.atom), .slice A2 n2 c2]))) ∧
      Hid (∀ w1, Keeps 59 w w1 → Calls Tryz.prog 125 #[.agg #[.string (St []), .slice (some ⟨bl, o, none⟩) 2 c]] w1 fun e w' => e = .returned (.string (St h)) ∧ Below w1.heap.size w1 w') := by
  have hh : ∀ w1, Keeps 59 w w1 → Calls Tryz.prog 125 #[v] w1 fun e w' => e = .returned (.string (St h)) ∧ Below w1.heap.size w1 w' := fun w1 hb => l1Head_any _ v w1 (hp.keep hb)
  obtain ⟨A, c, rfl, hr⟩ := hp.parts
  obtain ⟨bl, o, A', c', rfl, c0, _, _, _, hr⟩ := hr.uncons
  have hl := World.block_lt_of_cell? w _ c0
  obtain ⟨A2, n2, c2, d2, ha, hr⟩ := hr.at3k
  exact ⟨bl, o, c, rfl, hl, A2, n2, c2, fun w1 hk => ⟨(d2 w1 hk).1, (d2 w1 hk).2, ha.keep hk⟩, hh⟩
theorem labsN_len : ∀ (v : V) (env : List (List UInt8 × NT)) (t : NT), (v.labsN env t).length ≤ v.nodes := by
  intro v
  induction v with
  | u => intro env t; cases t <;> simp [V.labsN]
  | el s =>
    intro env t
    cases t <;> simp only [V.labsN, List.length_nil, Nat.zero_le]
    split <;> simp [V.nodes]
  | l v ih =>
    intro env t
    cases t with
    | sum a b => have := ih env a; simp only [V.labsN, V.nodes]; omega
    | _ => simp [V.labsN]
  | r v ih =>
    intro env t
    cases t with
    | sum a b => have := ih env b; simp only [V.labsN, V.nodes]; omega
    | _ => simp [V.labsN]
  | p v w ih ih2 =>
    intro env t
    cases t with
    | prod a b => have := ih env a; have := ih2 env b; simp only [V.labsN, List.length_append, V.nodes]; omega
    | _ => simp [V.labsN]
  | f v ih =>
    intro env t
    cases t with
    | loop x a => have := ih ((x, .loop x a) :: env) a; simp only [V.labsN, V.nodes]; omega
    | name s =>
      simp only [V.labsN]
      split
      · rename_i x a e rest _
        have := ih ((x, .loop x a) :: rest) a
        simp only [V.nodes]; omega
      · simp
    | _ => simp [V.labsN]
theorem atN_len (v : V) (env : List (List UInt8 × NT)) (t : NT) (nm : List UInt8) : (v.atN env t nm).length ≤ v.nodes := by
  unfold V.atN
  rw [List.length_map]
  exact Nat.le_trans (List.length_filter_le _ _) (labsN_len v env t)
set_option maxHeartbeats 8000000 in
set_option maxRecDepth 100000 in
theorem l2Turn_l (x : V) (ta tb : NT) (hsub : LTv x) : LTu (.l x) (.sum ta tb) := by
  intro t env A c vt vv w ok B gb nm a b ls env' hfnd hT hE hV hok hTB hBw hB ht3 hlen hvok hty hnm ha hb hls
  obtain ⟨hB', ht3', hlen', hno, _⟩ := fnd_spec hB t ht3 hlen
  obtain ⟨P, m, cc, A', c'', hT', hE', HF⟩ := l2Find_at t env A c vt w hT hE hB ht3
  rw [hfnd] at hT' hE' HF hB' ht3' hlen' hno
  simp only at hT' hE' HF hB' ht3' hlen' hno
  have hs : (NT.sum ta tb).toTr = .mk [] [.mk [43] [], ta.toTr, tb.toTr] := rfl
  rw [hs] at hT' HF
  simp only [Tr.atom] at hT' HF
  obtain ⟨xt, At, nt, ct0, rfl⟩ := hT.form
  obtain ⟨bl, o, ct, hag, A2, n2, cc2, A4, n4, c4, HC, HH⟩ := three_keeps hT'
  obtain ⟨_, h1, h2, h3⟩ := agg_inj hag
  subst h1 h2 h3
  have hbl : bl < w.heap.size := World.block_lt_of_cell? w _ (HC.out w (.refl _ _)).1
  obtain ⟨bv, ov, cv, rfl, hbv, A5, n5, c5, HCV, HHV⟩ := two_keeps hV
  have HIS : Hid (∀ w1, KT B w w1 → TBx w1 B gb nm a b ls → Calls Tryz.prog 91 #[.pointer (some ⟨gb, 0, none⟩), .agg #[.string (St ta.toTr.atom), .slice A2 n2 cc2], .slice A' env'.length c'', .agg #[.string (St x.toTr.atom), .slice A5 n5 c5]] w1 (TuP w1 ok B gb nm a b (x.turnN (mapF nm a b) env' ta) (ls ++ x.atN env' ta nm))) := fun w1 h h2 => hsub ta env' A' c'' _ _ w1 ok B gb nm a b ls (HC.out w1 h.tr).2.2.2.2.1.out (hE'.kt h) (HCV.out w1 h.tr).2.2.out (fun k hk => Nat.lt_of_lt_of_le (hok k hk) h.size) h2 (Nat.le_trans hBw h.size) hB' ht3'.1 (by simp only [NT.atoms] at hlen'; omega) hvok hty hnm ha hb (by simp only [V.nodes] at hls; omega)
  have hv1 : (V.l x).turnN (mapF nm a b) env' (.sum ta tb) = .l (x.turnN (mapF nm a b) env' ta) := rfl
  have hv2 : (V.l x).atN env' (.sum ta tb) nm = x.atN env' ta nm := rfl
  rw [hv1, hv2]
  have HQ : Hid (∀ w' c d xx AA nn cx, w'.heap[w.heap.size + 2]? = some (.cells #[c, d] 59 (0, 0)) → TAt w' (fun k => ok k ∨ w.heap.size + 2 < k) (.mk [] [.mk [108] [], (x.turnN (mapF nm a b) env' ta).toTr]) (.agg #[.string xx, .slice AA nn cx]) → TBx w' B gb nm a b (ls ++ x.atN env' ta nm) → KT B w w' → TuP w ok B gb nm a b (.l (x.turnN (mapF nm a b) env' ta)) (ls ++ x.atN env' ta nm) (.returned (.agg #[.string xx, .slice AA nn cx])) ((w'.setCell ⟨w.heap.size + 2, 0, none⟩ (.string xx)).setCell ⟨w.heap.size + 2, 1, none⟩ (.slice AA nn cx))) := fun w' c d xx AA nn cx h1 h2 h3 h4 => TuP.fin (v' := .l (x.turnN (mapF nm a b) env' ta)) hok hBw h1 h2 h3 h4
  have HBL := Lib.hid hBw
  have HTB := Lib.hid hTB
  have nbl : ¬ bl = w.heap.size + 2 := by omega
  have nbv : ¬ bv = w.heap.size + 2 := by omega
  clear hT hE hV hB ht3 hlen hvok hT' hE' hs hfnd hB' ht3' hlen' hno hok hBw hty hnm ha hb hls hag hbl hbv hTB hv1 hv2 hsub
  generalize TuP w ok B gb nm a b (.l (x.turnN (mapF nm a b) env' ta)) (ls ++ x.atN env' ta nm) = Q at *
  generalize htx : (x.turnN (mapF nm a b) env' ta).toTr = tx at *
  unfold TuP at HIS
  simp only [htx] at HIS
  generalize ls ++ x.atN env' ta nm = ls' at *
  generalize St ta.toTr.atom = aT at *
  generalize St x.toTr.atom = aX at *
  clear htx
  go_enter Tryz.func91, Tryz.ntmps91
  go_upto_region 7 with (go_at_call 140; (with_reducible refine (HF.out _ (up_alloc (up_alloc (up1 w _) _) _)).mono ?_); rintro e w1 ⟨rfl, hb1⟩; have K0 := block_up hb1 (block_alloc (old2 w (.cells #[.string xt, .slice At nt ct0] 59) (.cells #[.string (St []), .slice (some ⟨bv, ov, none⟩) 2 cv] 59)) (.cells #[.string ⟨#[]⟩, .slice none 0 0] 59)); have K1 := block_up hb1 (block_alloc (new2 w (.cells #[.string xt, .slice At nt ct0] 59) (.cells #[.string (St []), .slice (some ⟨bv, ov, none⟩) 2 cv] 59)) (.cells #[.string ⟨#[]⟩, .slice none 0 0] 59)); have K2 := block_up hb1 (new3 w (.cells #[.string xt, .slice At nt ct0] 59) (.cells #[.string (St []), .slice (some ⟨bv, ov, none⟩) 2 cv] 59) (.cells #[.string ⟨#[]⟩, .slice none 0 0] 59)); have r0 : w1.cell? ⟨w.heap.size, 0, none⟩ = some (.string xt) := block_cell K0 0; have r1 : w1.cell? ⟨w.heap.size, 1, none⟩ = some (.slice At nt ct0) := block_cell K0 1; have g0 := block_free K0 0; have g1 := block_free K0 1; have lr := lt_of_block K0; have HB1 := Lib.hid (up_trans (up_alloc (up_alloc (up1 w _) _) _) hb1); have HK0 := Lib.hid K0; have HK1 := Lib.hid K1; have HK2 := Lib.hid K2; clear hb1 K0 K1 K2)
  obtain ⟨BW, C0, C1, C2⟩ := set_box3 HB1.out HK0.out HK1.out HK2.out (.string (St [])) (.slice (some ⟨bl, o, none⟩) 3 cc)
  generalize ((w1.setCell ⟨w.heap.size, 0, none⟩ (.string (St []))).setCell ⟨w.heap.size, 1, none⟩ (.slice (some ⟨bl, o, none⟩) 3 cc)) = W1 at *
  have HBW := Lib.hid BW
  have KW : Hid (KT B w W1) := .up BW HBL.out
  have hsz : w.heap.size + 3 ≤ W1.heap.size := by have := lt_of_block C2; omega
  have HSZ := Lib.hid hsz
  have HC0 := Lib.hid C0
  have HC1 := Lib.hid C1
  have HC2 := Lib.hid C2
  clear BW C0 C1 C2 r0 r1 g0 g1 lr HK0 HK1 HK2 HB1 hsz
  have HBL1 : Hid (B ≤ W1.heap.size) := Nat.le_trans HBL.out HBW.out.size
  have HR : Hid (∀ w', KT B W1 w' → w'.heap[w.heap.size + 2]? = some (.cells #[.string ⟨#[]⟩, .slice none 0 0] 59 (0, 0))) := fun w' h => h.tr _ _ _ HC2.out
  have e0 : W1.cell? ⟨w.heap.size, 0, none⟩ = some (.string (St [])) := block_cell HC0.out 0
  have v0 : W1.cell? ⟨w.heap.size + 1, 0, none⟩ = some (.string (St [])) := block_cell HC1.out 0
  have v1 : W1.cell? ⟨w.heap.size + 1, 1, none⟩ = some (.slice (some ⟨bv, ov, none⟩) 2 cv) := block_cell HC1.out 1
  have v0' : W1.cell? ⟨w.heap.size + 1, 0, none⟩ = some (.string ⟨#[]⟩) := v0
  have lv := lt_of_block HC1.out
  have lt0 := lt_of_block HC0.out
  go_wp2_with (go_at_call 125; (with_reducible refine (HHV.out _ KW.out.tr).mono ?_); rintro e w2 ⟨rfl, hb2⟩; have K2 : Hid (KT B W1 w2) := .up hb2 HBL1.out; have HTB2 := Lib.hid ((HTB.out.up HBW.out).up hb2); clear hb2)
  have HS2 : Hid (B ≤ w2.heap.size) := Nat.le_trans HBL1.out K2.out.size
  have HS : Hid (∀ w', KT B W1 w' → w'.cell? ⟨w.heap.size, 1, none⟩ = some (.slice (some ⟨bl, o, none⟩) 3 cc) ∧ w'.cell? ⟨w.heap.size + 1, 1, none⟩ = some (.slice (some ⟨bv, ov, none⟩) 2 cv) ∧ w'.cell? ⟨bl, o + 2, none⟩ = some (.string aT) ∧ w'.cell? ⟨bl, o + 3, none⟩ = some (.slice A2 n2 cc2) ∧ w'.cell? ⟨bv, ov + 2, none⟩ = some (.string aX) ∧ w'.cell? ⟨bv, ov + 3, none⟩ = some (.slice A5 n5 c5)) := fun w' h => by
    obtain ⟨d2, d3, _, _, _, _⟩ := HC.out w' (KW.out.tr.trans h.tr)
    obtain ⟨e2, e3, _⟩ := HCV.out w' (KW.out.tr.trans h.tr)
    exact ⟨block_cell (h.tr _ _ _ HC0.out) 1, block_cell (h.tr _ _ _ HC1.out) 1, d2, d3, e2, e3⟩
  refine wp_region_noPanic ?_
  refine wp_region_held_drew (S := (fun w' => w'.cell? ⟨w.heap.size, 1, none⟩ = some (.slice (some ⟨bl, o, none⟩) 3 cc) ∧ w'.cell? ⟨w.heap.size + 1, 1, none⟩ = some (.slice (some ⟨bv, ov, none⟩) 2 cv) ∧ w'.cell? ⟨bl, o + 2, none⟩ = some (.string aT) ∧ w'.cell? ⟨bl, o + 3, none⟩ = some (.slice A2 n2 cc2) ∧ w'.cell? ⟨bv, ov + 2, none⟩ = some (.string aX) ∧ w'.cell? ⟨bv, ov + 3, none⟩ = some (.slice A5 n5 c5))) (by kernel_rfl) (by exact HS.out _ (K2.out.trans (.up (up_drew (Below.refl _ _)) HS2.out))) (fun hHeld => ?_)
  refine tk 0 ?_ rfl ?_ ?_
  rotate_left
  · intro W hSW; (try dsimp only at hSW); go_simp; try with_reducible rfl
  try simp only [Act.put, zA, zB, zC, zD, zE, zF]
  refine tk 1 ?_ rfl ?_ ?_
  rotate_left
  · intro W hSW; (try dsimp only at hSW); go_simp; try with_reducible rfl
  try simp only [Act.put, zA, zB, zC, zD, zE, zF]
  refine tk 2 ?_ rfl ?_ ?_
  rotate_left
  · intro W hSW; (try dsimp only at hSW); go_simp; try with_reducible rfl
  try simp only [Act.put, zA, zB, zC, zD, zE, zF]
  refine tk 3 ?_ rfl ?_ ?_
  rotate_left
  · intro W hSW; (try dsimp only at hSW); go_simp; try with_reducible rfl
  try simp only [Act.put, zA, zB, zC, zD, zE, zF]
  refine tk 4 ?_ rfl ?_ ?_
  rotate_left
  · intro W hSW; (try dsimp only at hSW); go_simp; try with_reducible rfl
  try simp only [Act.put, zA, zB, zC, zD, zE, zF]
  refine tk 5 ?_ rfl ?_ ?_
  rotate_left
  · intro W hSW; (try dsimp only at hSW); go_simp; try with_reducible rfl
  try simp only [Act.put, zA, zB, zC, zD, zE, zF]
  refine tk 6 ?_ rfl ?_ ?_
  rotate_left
  · intro W hSW; (try dsimp only at hSW); go_simp; try with_reducible rfl
  try simp only [Act.put, zA, zB, zC, zD, zE, zF]
  refine tk 7 ?_ rfl ?_ ?_
  rotate_left
  · intro W hSW; (try dsimp only at hSW); go_simp; try with_reducible rfl
  try simp only [Act.put, zA, zB, zC, zD, zE, zF]
  refine tk 8 ?_ rfl ?_ ?_
  rotate_left
  · intro W hSW; (try dsimp only at hSW); go_simp; try with_reducible rfl
  try simp only [Act.put, zA, zB, zC, zD, zE, zF]
  refine tk 9 ?_ rfl ?_ ?_
  rotate_left
  · intro W hSW; (try dsimp only at hSW); go_simp; try with_reducible rfl
  try simp only [Act.put, zA, zB, zC, zD, zE, zF]
  refine wpAnyH_ready (rs := [10]) (by kernel_rfl) (by simp) ?_
  refine AllReadyH.cons rfl (fun K hK => ?_) AllReadyH.nil
  go_simp
  go_at_call 91
  (with_reducible refine (HIS.out _ (KW.out.trans (K2.out.trans (.up (up_drew (Below.refl _ _)) HS2.out))) (HTB2.out.up (up_drew (Below.refl _ _)))).mono ?_)
  rintro e w3 ⟨⟨x3, A3, n3, c3, rfl, ht3'⟩, htb3, hk3⟩
  have K3 : Hid (KT B W1 w3) := (K2.out.trans (.up (up_drew (Below.refl _ _)) HS2.out)).trans hk3
  have HT3 : Hid (TAt w3 (fun k => ok k ∨ w.heap.size + 2 < k) tx (.agg #[.string x3, .slice A3 n3 c3])) := ht3'.weak fun k hk => hk.imp id fun h => by have h1 := K2.out.size; have h2 := HSZ.out; have h3 : w2.drew.heap.size = w2.heap.size := rfl; omega
  have HTB3 := Lib.hid htb3
  have HS3 : Hid (B ≤ w3.heap.size) := Nat.le_trans HBL1.out K3.out.size
  clear ht3' htb3 hk3
  refine hK.out _ _ (by exact HS.out _ K3.out) (fun hHeld => ?_)
  clear hK
  try simp only [Act.put, zA, zB, zC, zD, zE, zF]
  refine wpAnyH_ready (rs := [11]) (by kernel_rfl) (by simp) ?_
  refine AllReadyH.cons rfl (fun K hK => ?_) AllReadyH.nil
  go_simp
  refine hK.out _ _ (by exact HS.out _ (K3.out.trans (.up (up1 w3 _) HS3.out))) (fun hHeld => ?_)
  clear hK
  try simp only [Act.put, zA, zB, zC, zD, zE, zF]
  refine wpAnyH_ready (rs := [12]) (by kernel_rfl) (by simp) ?_
  refine AllReadyH.cons rfl (fun K hK => ?_) AllReadyH.nil
  go_simp
  go_at_call 71
  have HP3 : Hid (∀ k, (w3.alloc (.cells #[.string x3, .slice A3 n3 c3] 59)).heap.size ≤ k → ok k ∨ w.heap.size + 2 < k) := fun k hk => .inr (by have h1 := K3.out.size; have h2 := HSZ.out; simp at hk; omega)
  (with_reducible refine (list1T [108] tx (w3.alloc (.cells #[.string x3, .slice A3 n3 c3] 59)) w3.heap.size x3 A3 n3 c3 (fun k => ok k ∨ w.heap.size + 2 < k) HP3.out (block_new w3 _) (HT3.out.up (up1 w3 _))).mono ?_)
  rintro e w4 ⟨⟨x4, B4, m4, c4', rfl, ht4⟩, hb4⟩
  have K4 : Hid (KT B W1 w4) := K3.out.trans (.up (up_trans (up1 w3 _) hb4) HS3.out)
  have HTB4 := Lib.hid (HTB3.out.up (up_trans (up1 w3 (.cells #[.string x3, .slice A3 n3 c3] 59)) hb4))
  have HT4 := Lib.hid ht4
  have R4 := HR.out w4 K4.out
  have rc0 := block_cell R4 0
  have rc1 := block_cell R4 1
  have fr0 := block_free R4 0
  have fr1 := block_free R4 1
  have lr4 := lt_of_block R4
  have HR4 := Lib.hid R4
  obtain ⟨z0, z1, z2, z3, z4, z5⟩ := HS.out w4 K4.out
  clear ht4 hb4 R4
  refine hK.out _ _ (by exact HS.out _ K4.out) (fun hHeld => ?_)
  clear hK
  try simp only [Act.put, zA, zB, zC, zD, zE, zF]
  refine wpAnyH_ready (rs := [13]) (by kernel_rfl) (by simp) ?_
  refine AllReadyH.cons rfl (fun K hK => ?_) AllReadyH.nil
  go_simp
  refine hK.out _ _ (by exact ⟨(cell_box (by omega) _ _).trans z0, (cell_box (by omega) _ _).trans z1, (cell_box nbl _ _).trans z2, (cell_box nbl _ _).trans z3, (cell_box nbv _ _).trans z4, (cell_box nbv _ _).trans z5⟩) (fun hHeld => ?_)
  clear hK
  try simp only [Act.put, zA, zB, zC, zD, zE, zF]
  refine wpAnyH_done (by kernel_rfl) ?_ _
  refine NoPanic.normal ?_
  go_wp2
  refine bodyPost_ret (v := .agg #[.string x4, .slice B4 m4 c4']) (by simp [results, Tryz.results91, go_sem, rc0, rc1, lr4]) rfl ?_
  exact HQ.out w4 _ _ _ _ _ _ HR4.out HT4.out HTB4.out (KW.out.trans K4.out)
set_option maxHeartbeats 8000000 in
set_option maxRecDepth 100000 in
theorem l2Turn_r (x : V) (ta tb : NT) (hsub : LTv x) : LTu (.r x) (.sum ta tb) := by
  intro t env A c vt vv w ok B gb nm a b ls env' hfnd hT hE hV hok hTB hBw hB ht3 hlen hvok hty hnm ha hb hls
  obtain ⟨hB', ht3', hlen', hno, _⟩ := fnd_spec hB t ht3 hlen
  obtain ⟨P, m, cc, A', c'', hT', hE', HF⟩ := l2Find_at t env A c vt w hT hE hB ht3
  rw [hfnd] at hT' hE' HF hB' ht3' hlen' hno
  simp only at hT' hE' HF hB' ht3' hlen' hno
  have hs : (NT.sum ta tb).toTr = .mk [] [.mk [43] [], ta.toTr, tb.toTr] := rfl
  rw [hs] at hT' HF
  simp only [Tr.atom] at hT' HF
  obtain ⟨xt, At, nt, ct0, rfl⟩ := hT.form
  obtain ⟨bl, o, ct, hag, A2, n2, cc2, A4, n4, c4, HC, HH⟩ := three_keeps hT'
  obtain ⟨_, h1, h2, h3⟩ := agg_inj hag
  subst h1 h2 h3
  have hbl : bl < w.heap.size := World.block_lt_of_cell? w _ (HC.out w (.refl _ _)).1
  obtain ⟨bv, ov, cv, rfl, hbv, A5, n5, c5, HCV, HHV⟩ := two_keeps hV
  have HIS : Hid (∀ w1, KT B w w1 → TBx w1 B gb nm a b ls → Calls Tryz.prog 91 #[.pointer (some ⟨gb, 0, none⟩), .agg #[.string (St tb.toTr.atom), .slice A4 n4 c4], .slice A' env'.length c'', .agg #[.string (St x.toTr.atom), .slice A5 n5 c5]] w1 (TuP w1 ok B gb nm a b (x.turnN (mapF nm a b) env' tb) (ls ++ x.atN env' tb nm))) := fun w1 h h2 => hsub tb env' A' c'' _ _ w1 ok B gb nm a b ls (HC.out w1 h.tr).2.2.2.2.2.out (hE'.kt h) (HCV.out w1 h.tr).2.2.out (fun k hk => Nat.lt_of_lt_of_le (hok k hk) h.size) h2 (Nat.le_trans hBw h.size) hB' ht3'.2 (by simp only [NT.atoms] at hlen'; omega) hvok hty hnm ha hb (by simp only [V.nodes] at hls; omega)
  have hv1 : (V.r x).turnN (mapF nm a b) env' (.sum ta tb) = .r (x.turnN (mapF nm a b) env' tb) := rfl
  have hv2 : (V.r x).atN env' (.sum ta tb) nm = x.atN env' tb nm := rfl
  rw [hv1, hv2]
  have HQ : Hid (∀ w' c d xx AA nn cx, w'.heap[w.heap.size + 2]? = some (.cells #[c, d] 59 (0, 0)) → TAt w' (fun k => ok k ∨ w.heap.size + 2 < k) (.mk [] [.mk [114] [], (x.turnN (mapF nm a b) env' tb).toTr]) (.agg #[.string xx, .slice AA nn cx]) → TBx w' B gb nm a b (ls ++ x.atN env' tb nm) → KT B w w' → TuP w ok B gb nm a b (.r (x.turnN (mapF nm a b) env' tb)) (ls ++ x.atN env' tb nm) (.returned (.agg #[.string xx, .slice AA nn cx])) ((w'.setCell ⟨w.heap.size + 2, 0, none⟩ (.string xx)).setCell ⟨w.heap.size + 2, 1, none⟩ (.slice AA nn cx))) := fun w' c d xx AA nn cx h1 h2 h3 h4 => TuP.fin (v' := .r (x.turnN (mapF nm a b) env' tb)) hok hBw h1 h2 h3 h4
  have HBL := Lib.hid hBw
  have HTB := Lib.hid hTB
  have nbl : ¬ bl = w.heap.size + 2 := by omega
  have nbv : ¬ bv = w.heap.size + 2 := by omega
  clear hT hE hV hB ht3 hlen hvok hT' hE' hs hfnd hB' ht3' hlen' hno hok hBw hty hnm ha hb hls hag hbl hbv hTB hv1 hv2 hsub
  generalize TuP w ok B gb nm a b (.r (x.turnN (mapF nm a b) env' tb)) (ls ++ x.atN env' tb nm) = Q at *
  generalize htx : (x.turnN (mapF nm a b) env' tb).toTr = tx at *
  unfold TuP at HIS
  simp only [htx] at HIS
  generalize ls ++ x.atN env' tb nm = ls' at *
  generalize St tb.toTr.atom = aT at *
  generalize St x.toTr.atom = aX at *
  clear htx
  go_enter Tryz.func91, Tryz.ntmps91
  go_upto_region 7 with (go_at_call 140; (with_reducible refine (HF.out _ (up_alloc (up_alloc (up1 w _) _) _)).mono ?_); rintro e w1 ⟨rfl, hb1⟩; have K0 := block_up hb1 (block_alloc (old2 w (.cells #[.string xt, .slice At nt ct0] 59) (.cells #[.string (St []), .slice (some ⟨bv, ov, none⟩) 2 cv] 59)) (.cells #[.string ⟨#[]⟩, .slice none 0 0] 59)); have K1 := block_up hb1 (block_alloc (new2 w (.cells #[.string xt, .slice At nt ct0] 59) (.cells #[.string (St []), .slice (some ⟨bv, ov, none⟩) 2 cv] 59)) (.cells #[.string ⟨#[]⟩, .slice none 0 0] 59)); have K2 := block_up hb1 (new3 w (.cells #[.string xt, .slice At nt ct0] 59) (.cells #[.string (St []), .slice (some ⟨bv, ov, none⟩) 2 cv] 59) (.cells #[.string ⟨#[]⟩, .slice none 0 0] 59)); have r0 : w1.cell? ⟨w.heap.size, 0, none⟩ = some (.string xt) := block_cell K0 0; have r1 : w1.cell? ⟨w.heap.size, 1, none⟩ = some (.slice At nt ct0) := block_cell K0 1; have g0 := block_free K0 0; have g1 := block_free K0 1; have lr := lt_of_block K0; have HB1 := Lib.hid (up_trans (up_alloc (up_alloc (up1 w _) _) _) hb1); have HK0 := Lib.hid K0; have HK1 := Lib.hid K1; have HK2 := Lib.hid K2; clear hb1 K0 K1 K2)
  obtain ⟨BW, C0, C1, C2⟩ := set_box3 HB1.out HK0.out HK1.out HK2.out (.string (St [])) (.slice (some ⟨bl, o, none⟩) 3 cc)
  generalize ((w1.setCell ⟨w.heap.size, 0, none⟩ (.string (St []))).setCell ⟨w.heap.size, 1, none⟩ (.slice (some ⟨bl, o, none⟩) 3 cc)) = W1 at *
  have HBW := Lib.hid BW
  have KW : Hid (KT B w W1) := .up BW HBL.out
  have hsz : w.heap.size + 3 ≤ W1.heap.size := by have := lt_of_block C2; omega
  have HSZ := Lib.hid hsz
  have HC0 := Lib.hid C0
  have HC1 := Lib.hid C1
  have HC2 := Lib.hid C2
  clear BW C0 C1 C2 r0 r1 g0 g1 lr HK0 HK1 HK2 HB1 hsz
  have HBL1 : Hid (B ≤ W1.heap.size) := Nat.le_trans HBL.out HBW.out.size
  have HR : Hid (∀ w', KT B W1 w' → w'.heap[w.heap.size + 2]? = some (.cells #[.string ⟨#[]⟩, .slice none 0 0] 59 (0, 0))) := fun w' h => h.tr _ _ _ HC2.out
  have e0 : W1.cell? ⟨w.heap.size, 0, none⟩ = some (.string (St [])) := block_cell HC0.out 0
  have v0 : W1.cell? ⟨w.heap.size + 1, 0, none⟩ = some (.string (St [])) := block_cell HC1.out 0
  have v1 : W1.cell? ⟨w.heap.size + 1, 1, none⟩ = some (.slice (some ⟨bv, ov, none⟩) 2 cv) := block_cell HC1.out 1
  have v0' : W1.cell? ⟨w.heap.size + 1, 0, none⟩ = some (.string ⟨#[]⟩) := v0
  have lv := lt_of_block HC1.out
  have lt0 := lt_of_block HC0.out
  go_wp2_with (go_at_call 125; (with_reducible refine (HHV.out _ KW.out.tr).mono ?_); rintro e w2 ⟨rfl, hb2⟩; have K2 : Hid (KT B W1 w2) := .up hb2 HBL1.out; have HTB2 := Lib.hid ((HTB.out.up HBW.out).up hb2); clear hb2)
  have HS2 : Hid (B ≤ w2.heap.size) := Nat.le_trans HBL1.out K2.out.size
  have HS : Hid (∀ w', KT B W1 w' → w'.cell? ⟨w.heap.size, 1, none⟩ = some (.slice (some ⟨bl, o, none⟩) 3 cc) ∧ w'.cell? ⟨w.heap.size + 1, 1, none⟩ = some (.slice (some ⟨bv, ov, none⟩) 2 cv) ∧ w'.cell? ⟨bl, o + 4, none⟩ = some (.string aT) ∧ w'.cell? ⟨bl, o + 5, none⟩ = some (.slice A4 n4 c4) ∧ w'.cell? ⟨bv, ov + 2, none⟩ = some (.string aX) ∧ w'.cell? ⟨bv, ov + 3, none⟩ = some (.slice A5 n5 c5)) := fun w' h => by
    obtain ⟨_, _, d2, d3, _, _⟩ := HC.out w' (KW.out.tr.trans h.tr)
    obtain ⟨e2, e3, _⟩ := HCV.out w' (KW.out.tr.trans h.tr)
    exact ⟨block_cell (h.tr _ _ _ HC0.out) 1, block_cell (h.tr _ _ _ HC1.out) 1, d2, d3, e2, e3⟩
  refine wp_region_noPanic ?_
  refine wp_region_held_drew (S := (fun w' => w'.cell? ⟨w.heap.size, 1, none⟩ = some (.slice (some ⟨bl, o, none⟩) 3 cc) ∧ w'.cell? ⟨w.heap.size + 1, 1, none⟩ = some (.slice (some ⟨bv, ov, none⟩) 2 cv) ∧ w'.cell? ⟨bl, o + 4, none⟩ = some (.string aT) ∧ w'.cell? ⟨bl, o + 5, none⟩ = some (.slice A4 n4 c4) ∧ w'.cell? ⟨bv, ov + 2, none⟩ = some (.string aX) ∧ w'.cell? ⟨bv, ov + 3, none⟩ = some (.slice A5 n5 c5))) (by kernel_rfl) (by exact HS.out _ (K2.out.trans (.up (up_drew (Below.refl _ _)) HS2.out))) (fun hHeld => ?_)
  refine tk 0 ?_ rfl ?_ ?_
  rotate_left
  · intro W hSW; (try dsimp only at hSW); go_simp; try with_reducible rfl
  try simp only [Act.put, zA, zB, zC, zD, zE, zF]
  refine tk 1 ?_ rfl ?_ ?_
  rotate_left
  · intro W hSW; (try dsimp only at hSW); go_simp; try with_reducible rfl
  try simp only [Act.put, zA, zB, zC, zD, zE, zF]
  refine tk 2 ?_ rfl ?_ ?_
  rotate_left
  · intro W hSW; (try dsimp only at hSW); go_simp; try with_reducible rfl
  try simp only [Act.put, zA, zB, zC, zD, zE, zF]
  refine tk 3 ?_ rfl ?_ ?_
  rotate_left
  · intro W hSW; (try dsimp only at hSW); go_simp; try with_reducible rfl
  try simp only [Act.put, zA, zB, zC, zD, zE, zF]
  refine tk 4 ?_ rfl ?_ ?_
  rotate_left
  · intro W hSW; (try dsimp only at hSW); go_simp; try with_reducible rfl
  try simp only [Act.put, zA, zB, zC, zD, zE, zF]
  refine tk 5 ?_ rfl ?_ ?_
  rotate_left
  · intro W hSW; (try dsimp only at hSW); go_simp; try with_reducible rfl
  try simp only [Act.put, zA, zB, zC, zD, zE, zF]
  refine tk 6 ?_ rfl ?_ ?_
  rotate_left
  · intro W hSW; (try dsimp only at hSW); go_simp; try with_reducible rfl
  try simp only [Act.put, zA, zB, zC, zD, zE, zF]
  refine tk 7 ?_ rfl ?_ ?_
  rotate_left
  · intro W hSW; (try dsimp only at hSW); go_simp; try with_reducible rfl
  try simp only [Act.put, zA, zB, zC, zD, zE, zF]
  refine tk 8 ?_ rfl ?_ ?_
  rotate_left
  · intro W hSW; (try dsimp only at hSW); go_simp; try with_reducible rfl
  try simp only [Act.put, zA, zB, zC, zD, zE, zF]
  refine tk 9 ?_ rfl ?_ ?_
  rotate_left
  · intro W hSW; (try dsimp only at hSW); go_simp; try with_reducible rfl
  try simp only [Act.put, zA, zB, zC, zD, zE, zF]
  refine wpAnyH_ready (rs := [10]) (by kernel_rfl) (by simp) ?_
  refine AllReadyH.cons rfl (fun K hK => ?_) AllReadyH.nil
  go_simp
  go_at_call 91
  (with_reducible refine (HIS.out _ (KW.out.trans (K2.out.trans (.up (up_drew (Below.refl _ _)) HS2.out))) (HTB2.out.up (up_drew (Below.refl _ _)))).mono ?_)
  rintro e w3 ⟨⟨x3, A3, n3, c3, rfl, ht3'⟩, htb3, hk3⟩
  have K3 : Hid (KT B W1 w3) := (K2.out.trans (.up (up_drew (Below.refl _ _)) HS2.out)).trans hk3
  have HT3 : Hid (TAt w3 (fun k => ok k ∨ w.heap.size + 2 < k) tx (.agg #[.string x3, .slice A3 n3 c3])) := ht3'.weak fun k hk => hk.imp id fun h => by have h1 := K2.out.size; have h2 := HSZ.out; have h3 : w2.drew.heap.size = w2.heap.size := rfl; omega
  have HTB3 := Lib.hid htb3
  have HS3 : Hid (B ≤ w3.heap.size) := Nat.le_trans HBL1.out K3.out.size
  clear ht3' htb3 hk3
  refine hK.out _ _ (by exact HS.out _ K3.out) (fun hHeld => ?_)
  clear hK
  try simp only [Act.put, zA, zB, zC, zD, zE, zF]
  refine wpAnyH_ready (rs := [11]) (by kernel_rfl) (by simp) ?_
  refine AllReadyH.cons rfl (fun K hK => ?_) AllReadyH.nil
  go_simp
  refine hK.out _ _ (by exact HS.out _ (K3.out.trans (.up (up1 w3 _) HS3.out))) (fun hHeld => ?_)
  clear hK
  try simp only [Act.put, zA, zB, zC, zD, zE, zF]
  refine wpAnyH_ready (rs := [12]) (by kernel_rfl) (by simp) ?_
  refine AllReadyH.cons rfl (fun K hK => ?_) AllReadyH.nil
  go_simp
  go_at_call 71
  have HP3 : Hid (∀ k, (w3.alloc (.cells #[.string x3, .slice A3 n3 c3] 59)).heap.size ≤ k → ok k ∨ w.heap.size + 2 < k) := fun k hk => .inr (by have h1 := K3.out.size; have h2 := HSZ.out; simp at hk; omega)
  (with_reducible refine (list1T [114] tx (w3.alloc (.cells #[.string x3, .slice A3 n3 c3] 59)) w3.heap.size x3 A3 n3 c3 (fun k => ok k ∨ w.heap.size + 2 < k) HP3.out (block_new w3 _) (HT3.out.up (up1 w3 _))).mono ?_)
  rintro e w4 ⟨⟨x4, B4, m4, c4', rfl, ht4⟩, hb4⟩
  have K4 : Hid (KT B W1 w4) := K3.out.trans (.up (up_trans (up1 w3 _) hb4) HS3.out)
  have HTB4 := Lib.hid (HTB3.out.up (up_trans (up1 w3 (.cells #[.string x3, .slice A3 n3 c3] 59)) hb4))
  have HT4 := Lib.hid ht4
  have R4 := HR.out w4 K4.out
  have rc0 := block_cell R4 0
  have rc1 := block_cell R4 1
  have fr0 := block_free R4 0
  have fr1 := block_free R4 1
  have lr4 := lt_of_block R4
  have HR4 := Lib.hid R4
  obtain ⟨z0, z1, z2, z3, z4, z5⟩ := HS.out w4 K4.out
  clear ht4 hb4 R4
  refine hK.out _ _ (by exact HS.out _ K4.out) (fun hHeld => ?_)
  clear hK
  try simp only [Act.put, zA, zB, zC, zD, zE, zF]
  refine wpAnyH_ready (rs := [13]) (by kernel_rfl) (by simp) ?_
  refine AllReadyH.cons rfl (fun K hK => ?_) AllReadyH.nil
  go_simp
  refine hK.out _ _ (by exact ⟨(cell_box (by omega) _ _).trans z0, (cell_box (by omega) _ _).trans z1, (cell_box nbl _ _).trans z2, (cell_box nbl _ _).trans z3, (cell_box nbv _ _).trans z4, (cell_box nbv _ _).trans z5⟩) (fun hHeld => ?_)
  clear hK
  try simp only [Act.put, zA, zB, zC, zD, zE, zF]
  refine wpAnyH_done (by kernel_rfl) ?_ _
  refine NoPanic.normal ?_
  go_wp2
  refine bodyPost_ret (v := .agg #[.string x4, .slice B4 m4 c4']) (by simp [results, Tryz.results91, go_sem, rc0, rc1, lr4]) rfl ?_
  exact HQ.out w4 _ _ _ _ _ _ HR4.out HT4.out HTB4.out (KW.out.trans K4.out)
set_option maxHeartbeats 8000000 in
set_option maxRecDepth 100000 in
theorem l2Turn_p (x z : V) (ta tb : NT) (hsub : LTv x) (hsub2 : LTv z) : LTu (.p x z) (.prod ta tb) := by
  intro t env A c vt vv w ok B gb nm a b ls env' hfnd hT hE hV hok hTB hBw hB ht3 hlen hvok hty hnm ha hb hls
  obtain ⟨hB', ht3', hlen', hno, _⟩ := fnd_spec hB t ht3 hlen
  obtain ⟨P, m, cc, A', c'', hT', hE', HF⟩ := l2Find_at t env A c vt w hT hE hB ht3
  rw [hfnd] at hT' hE' HF hB' ht3' hlen' hno
  simp only at hT' hE' HF hB' ht3' hlen' hno
  have hs : (NT.prod ta tb).toTr = .mk [] [.mk [42] [], ta.toTr, tb.toTr] := rfl
  rw [hs] at hT' HF
  simp only [Tr.atom] at hT' HF
  obtain ⟨xt, At, nt, ct0, rfl⟩ := hT.form
  obtain ⟨bl, o, ct, hag, A2, n2, cc2, A4, n4, c4, HC, HH⟩ := three_keeps hT'
  obtain ⟨_, h1, h2, h3⟩ := agg_inj hag
  subst h1 h2 h3
  have hbl : bl < w.heap.size := World.block_lt_of_cell? w _ (HC.out w (.refl _ _)).1
  obtain ⟨bv, ov, cv, rfl, A5, n5, c5, A6, n6, c6, HCV, HHV⟩ := three_keeps hV
  have hbv : bv < w.heap.size := World.block_lt_of_cell? w _ (HCV.out w (.refl _ _)).1
  have hty1 : x.isOfN 100 env' ta = true ∧ z.isOfN 100 env' tb = true := by simpa [V.isOfN] using hty
  have HIS : Hid (∀ w1, KT B w w1 → TBx w1 B gb nm a b ls → Calls Tryz.prog 91 #[.pointer (some ⟨gb, 0, none⟩), .agg #[.string (St ta.toTr.atom), .slice A2 n2 cc2], .slice A' env'.length c'', .agg #[.string (St x.toTr.atom), .slice A5 n5 c5]] w1 (TuP w1 ok B gb nm a b (x.turnN (mapF nm a b) env' ta) (ls ++ x.atN env' ta nm))) := fun w1 h h2 => hsub ta env' A' c'' _ _ w1 ok B gb nm a b ls (HC.out w1 h.tr).2.2.2.2.1.out (hE'.kt h) (HCV.out w1 h.tr).2.2.2.2.1.out (fun k hk => Nat.lt_of_lt_of_le (hok k hk) h.size) h2 (Nat.le_trans hBw h.size) hB' ht3'.1 (by simp only [NT.atoms] at hlen'; omega) hvok.1 hty1.1 hnm ha hb (by simp only [V.nodes] at hls; omega)
  have HIS2 : Hid (∀ w1, KT B w w1 → TBx w1 B gb nm a b (ls ++ x.atN env' ta nm) → Calls Tryz.prog 91 #[.pointer (some ⟨gb, 0, none⟩), .agg #[.string (St tb.toTr.atom), .slice A4 n4 c4], .slice A' env'.length c'', .agg #[.string (St z.toTr.atom), .slice A6 n6 c6]] w1 (TuP w1 ok B gb nm a b (z.turnN (mapF nm a b) env' tb) ((ls ++ x.atN env' ta nm) ++ z.atN env' tb nm))) := fun w1 h h2 => hsub2 tb env' A' c'' _ _ w1 ok B gb nm a b (ls ++ x.atN env' ta nm) (HC.out w1 h.tr).2.2.2.2.2.out (hE'.kt h) (HCV.out w1 h.tr).2.2.2.2.2.out (fun k hk => Nat.lt_of_lt_of_le (hok k hk) h.size) h2 (Nat.le_trans hBw h.size) hB' ht3'.2 (by simp only [NT.atoms] at hlen'; omega) hvok.2 hty1.2 hnm ha hb (by
    have h9 := atN_len x env' ta nm
    simp only [V.nodes] at hls
    simp only [List.length_append]
    omega)
  have hv1 : (V.p x z).turnN (mapF nm a b) env' (.prod ta tb) = .p (x.turnN (mapF nm a b) env' ta) (z.turnN (mapF nm a b) env' tb) := rfl
  have hv2 : ls ++ (V.p x z).atN env' (.prod ta tb) nm = (ls ++ x.atN env' ta nm) ++ z.atN env' tb nm := by simp [V.atN, V.labsN]
  rw [hv1, hv2]
  have HQ : Hid (∀ w' c d xx AA nn cx, w'.heap[w.heap.size + 2]? = some (.cells #[c, d] 59 (0, 0)) → TAt w' (fun k => ok k ∨ w.heap.size + 2 < k) (.mk [] [.mk [112] [], (x.turnN (mapF nm a b) env' ta).toTr, (z.turnN (mapF nm a b) env' tb).toTr]) (.agg #[.string xx, .slice AA nn cx]) → TBx w' B gb nm a b ((ls ++ x.atN env' ta nm) ++ z.atN env' tb nm) → KT B w w' → TuP w ok B gb nm a b (.p (x.turnN (mapF nm a b) env' ta) (z.turnN (mapF nm a b) env' tb)) ((ls ++ x.atN env' ta nm) ++ z.atN env' tb nm) (.returned (.agg #[.string xx, .slice AA nn cx])) ((w'.setCell ⟨w.heap.size + 2, 0, none⟩ (.string xx)).setCell ⟨w.heap.size + 2, 1, none⟩ (.slice AA nn cx))) := fun w' c d xx AA nn cx h1 h2 h3 h4 => TuP.fin (v' := .p (x.turnN (mapF nm a b) env' ta) (z.turnN (mapF nm a b) env' tb)) hok hBw h1 h2 h3 h4
  have HBL := Lib.hid hBw
  have HTB := Lib.hid hTB
  have HOK : Hid (∀ k, ok k → k < w.heap.size) := hok
  have nbl : ¬ bl = w.heap.size + 2 := by omega
  have nbv : ¬ bv = w.heap.size + 2 := by omega
  have HBLT := Lib.hid hbl
  have HBVT := Lib.hid hbv
  clear hT hE hV hB ht3 hlen hvok hT' hE' hs hfnd hB' ht3' hlen' hno hok hBw hty hnm ha hb hls hag hbl hbv hTB hv1 hv2 hsub hsub2 hty1
  generalize TuP w ok B gb nm a b (.p (x.turnN (mapF nm a b) env' ta) (z.turnN (mapF nm a b) env' tb)) ((ls ++ x.atN env' ta nm) ++ z.atN env' tb nm) = Q at *
  generalize htx : (x.turnN (mapF nm a b) env' ta).toTr = tx at *
  generalize htz : (z.turnN (mapF nm a b) env' tb).toTr = tz at *
  unfold TuP at HIS HIS2
  simp only [htx] at HIS
  simp only [htz] at HIS2
  generalize (ls ++ x.atN env' ta nm) ++ z.atN env' tb nm = ls'' at *
  generalize ls ++ x.atN env' ta nm = ls' at *
  generalize St ta.toTr.atom = aT at *
  generalize St tb.toTr.atom = aU at *
  generalize St x.toTr.atom = aX at *
  generalize St z.toTr.atom = aZ at *
  clear htx htz
  go_enter Tryz.func91, Tryz.ntmps91
  go_upto_region 7 with (go_at_call 140; (with_reducible refine (HF.out _ (up_alloc (up_alloc (up1 w _) _) _)).mono ?_); rintro e w1 ⟨rfl, hb1⟩; have K0 := block_up hb1 (block_alloc (old2 w (.cells #[.string xt, .slice At nt ct0] 59) (.cells #[.string (St []), .slice (some ⟨bv, ov, none⟩) 3 cv] 59)) (.cells #[.string ⟨#[]⟩, .slice none 0 0] 59)); have K1 := block_up hb1 (block_alloc (new2 w (.cells #[.string xt, .slice At nt ct0] 59) (.cells #[.string (St []), .slice (some ⟨bv, ov, none⟩) 3 cv] 59)) (.cells #[.string ⟨#[]⟩, .slice none 0 0] 59)); have K2 := block_up hb1 (new3 w (.cells #[.string xt, .slice At nt ct0] 59) (.cells #[.string (St []), .slice (some ⟨bv, ov, none⟩) 3 cv] 59) (.cells #[.string ⟨#[]⟩, .slice none 0 0] 59)); have r0 : w1.cell? ⟨w.heap.size, 0, none⟩ = some (.string xt) := block_cell K0 0; have r1 : w1.cell? ⟨w.heap.size, 1, none⟩ = some (.slice At nt ct0) := block_cell K0 1; have g0 := block_free K0 0; have g1 := block_free K0 1; have lr := lt_of_block K0; have HB1 := Lib.hid (up_trans (up_alloc (up_alloc (up1 w _) _) _) hb1); have HK0 := Lib.hid K0; have HK1 := Lib.hid K1; have HK2 := Lib.hid K2; clear hb1 K0 K1 K2)
  obtain ⟨BW, C0, C1, C2⟩ := set_box3 HB1.out HK0.out HK1.out HK2.out (.string (St [])) (.slice (some ⟨bl, o, none⟩) 3 cc)
  generalize ((w1.setCell ⟨w.heap.size, 0, none⟩ (.string (St []))).setCell ⟨w.heap.size, 1, none⟩ (.slice (some ⟨bl, o, none⟩) 3 cc)) = W1 at *
  have HBW := Lib.hid BW
  have KW : Hid (KT B w W1) := .up BW HBL.out
  have hsz : w.heap.size + 3 ≤ W1.heap.size := by have := lt_of_block C2; omega
  have HSZ := Lib.hid hsz
  have HC0 := Lib.hid C0
  have HC1 := Lib.hid C1
  have HC2 := Lib.hid C2
  clear BW C0 C1 C2 r0 r1 g0 g1 lr HK0 HK1 HK2 HB1 hsz
  have HBL1 : Hid (B ≤ W1.heap.size) := Nat.le_trans HBL.out HBW.out.size
  have HR : Hid (∀ w', KT B W1 w' → w'.heap[w.heap.size + 2]? = some (.cells #[.string ⟨#[]⟩, .slice none 0 0] 59 (0, 0))) := fun w' h => h.tr _ _ _ HC2.out
  have e0 : W1.cell? ⟨w.heap.size, 0, none⟩ = some (.string (St [])) := block_cell HC0.out 0
  have v0 : W1.cell? ⟨w.heap.size + 1, 0, none⟩ = some (.string (St [])) := block_cell HC1.out 0
  have v1 : W1.cell? ⟨w.heap.size + 1, 1, none⟩ = some (.slice (some ⟨bv, ov, none⟩) 3 cv) := block_cell HC1.out 1
  have v0' : W1.cell? ⟨w.heap.size + 1, 0, none⟩ = some (.string ⟨#[]⟩) := v0
  have lv := lt_of_block HC1.out
  have lt0 := lt_of_block HC0.out
  go_wp2_with (go_at_call 125; (with_reducible refine (HHV.out _ KW.out.tr).mono ?_); rintro e w2 ⟨rfl, hb2⟩; have K2 : Hid (KT B W1 w2) := .up hb2 HBL1.out; have HTB2 := Lib.hid ((HTB.out.up HBW.out).up hb2); clear hb2)
  have HS2 : Hid (B ≤ w2.heap.size) := Nat.le_trans HBL1.out K2.out.size
  have HS : Hid (∀ w', KT B W1 w' → w'.cell? ⟨w.heap.size, 1, none⟩ = some (.slice (some ⟨bl, o, none⟩) 3 cc) ∧ w'.cell? ⟨w.heap.size + 1, 1, none⟩ = some (.slice (some ⟨bv, ov, none⟩) 3 cv) ∧ w'.cell? ⟨bl, o + 2, none⟩ = some (.string aT) ∧ w'.cell? ⟨bl, o + 3, none⟩ = some (.slice A2 n2 cc2) ∧ w'.cell? ⟨bl, o + 4, none⟩ = some (.string aU) ∧ w'.cell? ⟨bl, o + 5, none⟩ = some (.slice A4 n4 c4) ∧ w'.cell? ⟨bv, ov + 2, none⟩ = some (.string aX) ∧ w'.cell? ⟨bv, ov + 3, none⟩ = some (.slice A5 n5 c5) ∧ w'.cell? ⟨bv, ov + 4, none⟩ = some (.string aZ) ∧ w'.cell? ⟨bv, ov + 5, none⟩ = some (.slice A6 n6 c6)) := fun w' h => by
    obtain ⟨d2, d3, d4, d5, _, _⟩ := HC.out w' (KW.out.tr.trans h.tr)
    obtain ⟨e2, e3, e4, e5, _, _⟩ := HCV.out w' (KW.out.tr.trans h.tr)
    exact ⟨block_cell (h.tr _ _ _ HC0.out) 1, block_cell (h.tr _ _ _ HC1.out) 1, d2, d3, d4, d5, e2, e3, e4, e5⟩
  have hbl := HBLT.out
  have hbv := HBVT.out
  refine wp_region_noPanic ?_
  refine wp_region_held_drew (S := (fun w' => w'.cell? ⟨w.heap.size, 1, none⟩ = some (.slice (some ⟨bl, o, none⟩) 3 cc) ∧ w'.cell? ⟨w.heap.size + 1, 1, none⟩ = some (.slice (some ⟨bv, ov, none⟩) 3 cv) ∧ w'.cell? ⟨bl, o + 2, none⟩ = some (.string aT) ∧ w'.cell? ⟨bl, o + 3, none⟩ = some (.slice A2 n2 cc2) ∧ w'.cell? ⟨bl, o + 4, none⟩ = some (.string aU) ∧ w'.cell? ⟨bl, o + 5, none⟩ = some (.slice A4 n4 c4) ∧ w'.cell? ⟨bv, ov + 2, none⟩ = some (.string aX) ∧ w'.cell? ⟨bv, ov + 3, none⟩ = some (.slice A5 n5 c5) ∧ w'.cell? ⟨bv, ov + 4, none⟩ = some (.string aZ) ∧ w'.cell? ⟨bv, ov + 5, none⟩ = some (.slice A6 n6 c6))) (by kernel_rfl) (by exact HS.out _ (K2.out.trans (.up (up_drew (Below.refl _ _)) HS2.out))) (fun hHeld => ?_)
  refine tk 0 ?_ rfl ?_ ?_
  rotate_left
  · intro W hSW; (try dsimp only at hSW); go_simp; try with_reducible rfl
  try simp only [Act.put, zA, zB, zC, zD, zE, zF]
  refine tk 1 ?_ rfl ?_ ?_
  rotate_left
  · intro W hSW; (try dsimp only at hSW); go_simp; try with_reducible rfl
  try simp only [Act.put, zA, zB, zC, zD, zE, zF]
  refine tk 2 ?_ rfl ?_ ?_
  rotate_left
  · intro W hSW; (try dsimp only at hSW); go_simp; try with_reducible rfl
  try simp only [Act.put, zA, zB, zC, zD, zE, zF]
  refine tk 3 ?_ rfl ?_ ?_
  rotate_left
  · intro W hSW; (try dsimp only at hSW); go_simp; try with_reducible rfl
  try simp only [Act.put, zA, zB, zC, zD, zE, zF]
  refine tk 4 ?_ rfl ?_ ?_
  rotate_left
  · intro W hSW; (try dsimp only at hSW); go_simp; try with_reducible rfl
  try simp only [Act.put, zA, zB, zC, zD, zE, zF]
  refine tk 5 ?_ rfl ?_ ?_
  rotate_left
  · intro W hSW; (try dsimp only at hSW); go_simp; try with_reducible rfl
  try simp only [Act.put, zA, zB, zC, zD, zE, zF]
  refine tk 6 ?_ rfl ?_ ?_
  rotate_left
  · intro W hSW; (try dsimp only at hSW); go_simp; try with_reducible rfl
  try simp only [Act.put, zA, zB, zC, zD, zE, zF]
  refine tk 7 ?_ rfl ?_ ?_
  rotate_left
  · intro W hSW; (try dsimp only at hSW); go_simp; try with_reducible rfl
  try simp only [Act.put, zA, zB, zC, zD, zE, zF]
  refine tk 8 ?_ rfl ?_ ?_
  rotate_left
  · intro W hSW; (try dsimp only at hSW); go_simp; try with_reducible rfl
  try simp only [Act.put, zA, zB, zC, zD, zE, zF]
  refine tk 9 ?_ rfl ?_ ?_
  rotate_left
  · intro W hSW; (try dsimp only at hSW); go_simp; try with_reducible rfl
  try simp only [Act.put, zA, zB, zC, zD, zE, zF]
  refine wpAnyH_ready (rs := [10, 11]) (by kernel_rfl) (by simp) ?_
  refine AllReadyH.cons rfl (fun K hK => ?_) (AllReadyH.cons rfl (fun K hK => ?_) AllReadyH.nil)
  · skip
    go_simp
    go_at_call 91
    (with_reducible refine (HIS.out _ (KW.out.trans (K2.out.trans (.up (by repeat (first | exact Below.refl _ _ | refine up_drew ?_ | refine up_alloc ?_ _)) HS2.out))) (HTB2.out.up (by repeat (first | exact Below.refl _ _ | refine up_drew ?_ | refine up_alloc ?_ _)))).mono ?_)
    rintro e w3 ⟨⟨x3, A3, n3, c3, rfl, ht3'⟩, htb3, hk3⟩
    have K3 : Hid (KT B W1 w3) := (K2.out.trans (.up (by repeat (first | exact Below.refl _ _ | refine up_drew ?_ | refine up_alloc ?_ _)) HS2.out)).trans hk3
    have HT3 : Hid (TAt w3 (fun k => ok k ∨ w2.heap.size < k) tx (.agg #[.string x3, .slice A3 n3 c3])) := ht3'.weak fun k hk => hk.imp id fun h => by simp [drew_heap] at h; omega
    have HTB3 := Lib.hid htb3
    have HS3 : Hid (B ≤ w3.heap.size) := Nat.le_trans HBL1.out K3.out.size
    clear ht3' htb3 hk3
    refine hK.out _ _ (by exact HS.out _ K3.out) (fun hHeld => ?_)
    clear hK
    try simp only [Act.put, zA, zB, zC, zD, zE, zF]
    refine wpAnyH_ready (rs := [11]) (by kernel_rfl) (by simp) ?_
    refine AllReadyH.cons rfl (fun K hK => ?_) AllReadyH.nil
    go_simp
    refine hK.out _ _ (by exact HS.out _ (K3.out.trans (.up (up1 w3 _) HS3.out))) (fun hHeld => ?_)
    clear hK
    try simp only [Act.put, zA, zB, zC, zD, zE, zF]
    refine wpAnyH_ready (rs := [12]) (by kernel_rfl) (by simp) ?_
    refine AllReadyH.cons rfl (fun K hK => ?_) AllReadyH.nil
    go_simp
    refine hK.out _ _ (by first | exact HS.out _ (K3.out.trans (.up (up1 w3 _) HS3.out)) | (obtain ⟨t0, t1, t2, t3, t4, t5, t6, t7, t8, t9⟩ := HS.out _ (K3.out.trans (.up (up1 w3 (.cells #[.string ⟨#[]⟩, .slice none 0 0] 59)) HS3.out)); have lw3 := K3.out.size; have hz := HSZ.out; have hbl := HBLT.out; have hbv := HBVT.out; exact ⟨(cell_box (by omega) _ _).trans t0, (cell_box (by omega) _ _).trans t1, (cell_box (by omega) _ _).trans t2, (cell_box (by omega) _ _).trans t3, (cell_box (by omega) _ _).trans t4, (cell_box (by omega) _ _).trans t5, (cell_box (by omega) _ _).trans t6, (cell_box (by omega) _ _).trans t7, (cell_box (by omega) _ _).trans t8, (cell_box (by omega) _ _).trans t9⟩)) (fun hHeld => ?_)
    clear hK
    try simp only [Act.put, zA, zB, zC, zD, zE, zF]
    refine wpAnyH_done (by kernel_rfl) ?_ _
    refine NoPanic.normal ?_
    go_wp2
    have KT5 : KT B W1 (w3.alloc (.cells #[.string x3, .slice A3 n3 c3] 59)) := K3.out.trans (.up (up1 w3 _) HS3.out)
    have C9 := block_new w3 (.cells #[.string x3, .slice A3 n3 c3] 59)
    have HTB5 := Lib.hid (HTB3.out.up (up1 w3 (.cells #[.string x3, .slice A3 n3 c3] 59)))
    have HT5 : Hid (TAt (w3.alloc (.cells #[.string x3, .slice A3 n3 c3] 59)) (fun k => ok k ∨ w.heap.size + 2 < k) tx (.agg #[.string x3, .slice A3 n3 c3])) := (HT3.out.up (up1 w3 _)).weak fun k hk => hk.imp id fun h => by have h1 := K2.out.size; have h2 := HSZ.out; omega
    have hg9 : w.heap.size + 3 ≤ w3.heap.size := by have h1 := K2.out.size; have h2 := HSZ.out; have h3 := K3.out.size; omega
    generalize (w3.alloc (.cells #[.string x3, .slice A3 n3 c3] 59)) = W5 at *
    have HK5 := Lib.hid KT5
    have HC9 := Lib.hid C9
    have HS5 : Hid (B ≤ W5.heap.size) := Nat.le_trans HBL1.out KT5.size
    clear KT5 C9
    have HS14 : Hid (∀ w', KT B W5 w' → w'.cell? ⟨w.heap.size, 1, none⟩ = some (.slice (some ⟨bl, o, none⟩) 3 cc) ∧ w'.cell? ⟨w.heap.size + 1, 1, none⟩ = some (.slice (some ⟨bv, ov, none⟩) 3 cv) ∧ w'.cell? ⟨bl, o + 2, none⟩ = some (.string aT) ∧ w'.cell? ⟨bl, o + 3, none⟩ = some (.slice A2 n2 cc2) ∧ w'.cell? ⟨bl, o + 4, none⟩ = some (.string aU) ∧ w'.cell? ⟨bl, o + 5, none⟩ = some (.slice A4 n4 c4) ∧ w'.cell? ⟨bv, ov + 2, none⟩ = some (.string aX) ∧ w'.cell? ⟨bv, ov + 3, none⟩ = some (.slice A5 n5 c5) ∧ w'.cell? ⟨bv, ov + 4, none⟩ = some (.string aZ) ∧ w'.cell? ⟨bv, ov + 5, none⟩ = some (.slice A6 n6 c6) ∧ w'.cell? ⟨w3.heap.size, 0, none⟩ = some (.string x3) ∧ w'.cell? ⟨w3.heap.size, 1, none⟩ = some (.slice A3 n3 c3)) := fun w' h => by
      obtain ⟨u0, u1, u2, u3, u4, u5, u6, u7, u8, u9⟩ := HS.out w' (HK5.out.trans h)
      exact ⟨u0, u1, u2, u3, u4, u5, u6, u7, u8, u9, block_cell (h.tr _ _ _ HC9.out) 0, block_cell (h.tr _ _ _ HC9.out) 1⟩
    refine wp_region_noPanic ?_
    refine wp_region_held_drew (S := (fun w' => w'.cell? ⟨w.heap.size, 1, none⟩ = some (.slice (some ⟨bl, o, none⟩) 3 cc) ∧ w'.cell? ⟨w.heap.size + 1, 1, none⟩ = some (.slice (some ⟨bv, ov, none⟩) 3 cv) ∧ w'.cell? ⟨bl, o + 2, none⟩ = some (.string aT) ∧ w'.cell? ⟨bl, o + 3, none⟩ = some (.slice A2 n2 cc2) ∧ w'.cell? ⟨bl, o + 4, none⟩ = some (.string aU) ∧ w'.cell? ⟨bl, o + 5, none⟩ = some (.slice A4 n4 c4) ∧ w'.cell? ⟨bv, ov + 2, none⟩ = some (.string aX) ∧ w'.cell? ⟨bv, ov + 3, none⟩ = some (.slice A5 n5 c5) ∧ w'.cell? ⟨bv, ov + 4, none⟩ = some (.string aZ) ∧ w'.cell? ⟨bv, ov + 5, none⟩ = some (.slice A6 n6 c6) ∧ w'.cell? ⟨w3.heap.size, 0, none⟩ = some (.string x3) ∧ w'.cell? ⟨w3.heap.size, 1, none⟩ = some (.slice A3 n3 c3))) (by kernel_rfl) (by exact HS14.out _ (.up (up_drew (Below.refl _ _)) HS5.out)) (fun hHeld => ?_)
    refine tk 0 ?_ rfl ?_ ?_
    rotate_left
    · intro W hSW; (try dsimp only at hSW); go_simp; try with_reducible rfl
    try simp only [Act.put, zA, zB, zC, zD, zE, zF]
    refine tk 1 ?_ rfl ?_ ?_
    rotate_left
    · intro W hSW; (try dsimp only at hSW); go_simp; try with_reducible rfl
    try simp only [Act.put, zA, zB, zC, zD, zE, zF]
    refine tk 2 ?_ rfl ?_ ?_
    rotate_left
    · intro W hSW; (try dsimp only at hSW); go_simp; try with_reducible rfl
    try simp only [Act.put, zA, zB, zC, zD, zE, zF]
    refine tk 3 ?_ rfl ?_ ?_
    rotate_left
    · intro W hSW; (try dsimp only at hSW); go_simp; try with_reducible rfl
    try simp only [Act.put, zA, zB, zC, zD, zE, zF]
    refine tk 4 ?_ rfl ?_ ?_
    rotate_left
    · intro W hSW; (try dsimp only at hSW); go_simp; try with_reducible rfl
    try simp only [Act.put, zA, zB, zC, zD, zE, zF]
    refine tk 5 ?_ rfl ?_ ?_
    rotate_left
    · intro W hSW; (try dsimp only at hSW); go_simp; try with_reducible rfl
    try simp only [Act.put, zA, zB, zC, zD, zE, zF]
    refine tk 6 ?_ rfl ?_ ?_
    rotate_left
    · intro W hSW; (try dsimp only at hSW); go_simp; try with_reducible rfl
    try simp only [Act.put, zA, zB, zC, zD, zE, zF]
    refine tk 7 ?_ rfl ?_ ?_
    rotate_left
    · intro W hSW; (try dsimp only at hSW); go_simp; try with_reducible rfl
    try simp only [Act.put, zA, zB, zC, zD, zE, zF]
    refine tk 8 ?_ rfl ?_ ?_
    rotate_left
    · intro W hSW; (try dsimp only at hSW); go_simp; try with_reducible rfl
    try simp only [Act.put, zA, zB, zC, zD, zE, zF]
    refine tk 9 ?_ rfl ?_ ?_
    rotate_left
    · intro W hSW; (try dsimp only at hSW); go_simp; try with_reducible rfl
    try simp only [Act.put, zA, zB, zC, zD, zE, zF]
    refine tk 10 ?_ rfl ?_ ?_
    rotate_left
    · intro W hSW; (try dsimp only at hSW); go_simp; try with_reducible rfl
    try simp only [Act.put, zA, zB, zC, zD, zE, zF]
    refine wpAnyH_ready (rs := [11]) (by kernel_rfl) (by simp) ?_
    refine AllReadyH.cons rfl (fun K hK => ?_) AllReadyH.nil
    go_simp
    go_at_call 91
    (with_reducible refine (HIS2.out _ (KW.out.trans (HK5.out.trans (.up (up_drew (Below.refl _ _)) HS5.out))) (HTB5.out.up (up_drew (Below.refl _ _)))).mono ?_)
    rintro e w6 ⟨⟨x6, B6, m6, c6', rfl, ht6'⟩, htb6, hk6⟩
    have K6 : Hid (KT B W5 w6) := (KT.up (up_drew (Below.refl _ _)) HS5.out).trans hk6
    have HT6 : Hid (TAt w6 (fun k => ok k ∨ w.heap.size + 2 < k) tz (.agg #[.string x6, .slice B6 m6 c6'])) := ht6'.weak fun k hk => hk.imp id fun h => by have h1 := HK5.out.size; have h2 := HSZ.out; simp [drew_heap] at h; omega
    have HT56 := Lib.hid (HT5.out.kt K6.out)
    have HTB6 := Lib.hid htb6
    have HS6 : Hid (B ≤ w6.heap.size) := Nat.le_trans HS5.out K6.out.size
    clear ht6' htb6 hk6
    refine hK.out _ _ (by exact HS14.out _ K6.out) (fun hHeld => ?_)
    clear hK
    try simp only [Act.put, zA, zB, zC, zD, zE, zF]
    refine wpAnyH_ready (rs := [12]) (by kernel_rfl) (by simp) ?_
    refine AllReadyH.cons rfl (fun K hK => ?_) AllReadyH.nil
    go_simp
    refine hK.out _ _ (by exact HS14.out _ (K6.out.trans (.up (up1 w6 _) HS6.out))) (fun hHeld => ?_)
    clear hK
    try simp only [Act.put, zA, zB, zC, zD, zE, zF]
    refine wpAnyH_ready (rs := [13]) (by kernel_rfl) (by simp) ?_
    refine AllReadyH.cons rfl (fun K hK => ?_) AllReadyH.nil
    go_simp
    go_at_call 71
    have HP6 : Hid (∀ k, (w6.alloc (.cells #[.string x3, .slice A3 n3 c3, .string x6, .slice B6 m6 c6'] 59)).heap.size ≤ k → ok k ∨ w.heap.size + 2 < k) := fun k hk => .inr (by have h1 := K6.out.size; have h2 := HSZ.out; have h3 := HK5.out.size; simp at hk; omega)
    (with_reducible refine (list2T [112] tx tz (w6.alloc (.cells #[.string x3, .slice A3 n3 c3, .string x6, .slice B6 m6 c6'] 59)) w6.heap.size x3 x6 A3 B6 n3 c3 m6 c6' (fun k => ok k ∨ w.heap.size + 2 < k) HP6.out (block_new w6 _) (HT56.out.up (up1 w6 _)) (HT6.out.up (up1 w6 _))).mono ?_)
    rintro e w7 ⟨⟨x7, B7, m7, c7', rfl, ht7⟩, hb7⟩
    have K7 : Hid (KT B W5 w7) := K6.out.trans (.up (up_trans (up1 w6 _) hb7) HS6.out)
    have HTB7 := Lib.hid (HTB6.out.up (up_trans (up1 w6 (.cells #[.string x3, .slice A3 n3 c3, .string x6, .slice B6 m6 c6'] 59)) hb7))
    have HT7 := Lib.hid ht7
    have R7 := HR.out w7 (HK5.out.trans K7.out)
    have rc0 := block_cell R7 0
    have rc1 := block_cell R7 1
    have fr0 := block_free R7 0
    have fr1 := block_free R7 1
    have lr7 := lt_of_block R7
    have HR7 := Lib.hid R7
    obtain ⟨q0, q1, q2, q3, q4, q5, q6, q7, q8, q9, q10, q11⟩ := HS14.out w7 K7.out
    clear ht7 hb7 R7
    refine hK.out _ _ (by exact HS14.out _ K7.out) (fun hHeld => ?_)
    clear hK
    try simp only [Act.put, zA, zB, zC, zD, zE, zF]
    refine wpAnyH_ready (rs := [14]) (by kernel_rfl) (by simp) ?_
    refine AllReadyH.cons rfl (fun K hK => ?_) AllReadyH.nil
    go_simp
    refine hK.out _ _ (by exact ⟨(cell_box (by omega) _ _).trans q0, (cell_box (by omega) _ _).trans q1, (cell_box nbl _ _).trans q2, (cell_box nbl _ _).trans q3, (cell_box nbl _ _).trans q4, (cell_box nbl _ _).trans q5, (cell_box nbv _ _).trans q6, (cell_box nbv _ _).trans q7, (cell_box nbv _ _).trans q8, (cell_box nbv _ _).trans q9, (cell_box (by omega) _ _).trans q10, (cell_box (by omega) _ _).trans q11⟩) (fun hHeld => ?_)
    clear hK
    try simp only [Act.put, zA, zB, zC, zD, zE, zF]
    refine wpAnyH_done (by kernel_rfl) ?_ _
    refine NoPanic.normal ?_
    go_wp2
    refine bodyPost_ret (v := .agg #[.string x7, .slice B7 m7 c7']) (by simp [results, Tryz.results91, go_sem, rc0, rc1, lr7]) rfl ?_
    exact HQ.out w7 _ _ _ _ _ _ HR7.out HT7.out HTB7.out (KW.out.trans (HK5.out.trans K7.out))
  · skip
    go_simp
    refine hK.out _ _ (by exact HS.out _ (K2.out.trans (.up (by repeat (first | exact Below.refl _ _ | refine up_drew ?_ | refine up_alloc ?_ _)) HS2.out))) (fun hHeld => ?_)
    clear hK
    try simp only [Act.put, zA, zB, zC, zD, zE, zF]
    refine wpAnyH_ready (rs := [10]) (by kernel_rfl) (by simp) ?_
    refine AllReadyH.cons rfl (fun K hK => ?_) AllReadyH.nil
    go_simp
    go_at_call 91
    (with_reducible refine (HIS.out _ (KW.out.trans (K2.out.trans (.up (by repeat (first | exact Below.refl _ _ | refine up_drew ?_ | refine up_alloc ?_ _)) HS2.out))) (HTB2.out.up (by repeat (first | exact Below.refl _ _ | refine up_drew ?_ | refine up_alloc ?_ _)))).mono ?_)
    rintro e w3 ⟨⟨x3, A3, n3, c3, rfl, ht3'⟩, htb3, hk3⟩
    have HG9 : Hid (w3.heap[w2.heap.size]? = some (.cells #[.string ⟨#[]⟩, .slice none 0 0] 59 (0, 0))) := hk3.tr _ _ _ (block_new w2.drew _)
    have K3 : Hid (KT B W1 w3) := (K2.out.trans (.up (by repeat (first | exact Below.refl _ _ | refine up_drew ?_ | refine up_alloc ?_ _)) HS2.out)).trans hk3
    have HT3 : Hid (TAt w3 (fun k => ok k ∨ w2.heap.size < k) tx (.agg #[.string x3, .slice A3 n3 c3])) := ht3'.weak fun k hk => hk.imp id fun h => by simp [drew_heap] at h; omega
    have HTB3 := Lib.hid htb3
    have HS3 : Hid (B ≤ w3.heap.size) := Nat.le_trans HBL1.out K3.out.size
    have c9 : w3.cell? ⟨w2.heap.size, 0, none⟩ = some (.string ⟨#[]⟩) := block_cell HG9.out 0
    have c9b : w3.cell? ⟨w2.heap.size, 1, none⟩ = some (.slice none 0 0) := block_cell HG9.out 1
    have f9 := block_free HG9.out 0
    have f9b := block_free HG9.out 1
    have l9 := lt_of_block HG9.out
    clear ht3' htb3 hk3
    refine hK.out _ _ (by exact HS.out _ K3.out) (fun hHeld => ?_)
    clear hK
    try simp only [Act.put, zA, zB, zC, zD, zE, zF]
    refine wpAnyH_ready (rs := [12]) (by kernel_rfl) (by simp) ?_
    refine AllReadyH.cons rfl (fun K hK => ?_) AllReadyH.nil
    go_simp
    refine hK.out _ _ (by obtain ⟨t0, t1, t2, t3, t4, t5, t6, t7, t8, t9⟩ := HS.out _ K3.out; have lw2 := K2.out.size; have hz := HSZ.out; have hbl := HBLT.out; have hbv := HBVT.out; exact ⟨(cell_box (by omega) _ _).trans t0, (cell_box (by omega) _ _).trans t1, (cell_box (by omega) _ _).trans t2, (cell_box (by omega) _ _).trans t3, (cell_box (by omega) _ _).trans t4, (cell_box (by omega) _ _).trans t5, (cell_box (by omega) _ _).trans t6, (cell_box (by omega) _ _).trans t7, (cell_box (by omega) _ _).trans t8, (cell_box (by omega) _ _).trans t9⟩) (fun hHeld => ?_)
    clear hK
    try simp only [Act.put, zA, zB, zC, zD, zE, zF]
    refine wpAnyH_done (by kernel_rfl) ?_ _
    refine NoPanic.normal ?_
    go_wp2
    have KT5 : KT B W1 ((w3.setCell ⟨w2.heap.size, 0, none⟩ (.string x3)).setCell ⟨w2.heap.size, 1, none⟩ (.slice A3 n3 c3)) := K3.out.box K2.out.size HBL1.out _ _
    have C9 : ((w3.setCell ⟨w2.heap.size, 0, none⟩ (.string x3)).setCell ⟨w2.heap.size, 1, none⟩ (.slice A3 n3 c3)).heap[w2.heap.size]? = some (.cells #[.string x3, .slice A3 n3 c3] 59 (0, 0)) := block_set (block_set HG9.out 0 _) 1 _
    have HTB5 := Lib.hid (HTB3.out.box HG9.out (.string x3) (.slice A3 n3 c3))
    have HT5 : Hid (TAt ((w3.setCell ⟨w2.heap.size, 0, none⟩ (.string x3)).setCell ⟨w2.heap.size, 1, none⟩ (.slice A3 n3 c3)) (fun k => ok k ∨ w.heap.size + 2 < k) tx (.agg #[.string x3, .slice A3 n3 c3])) := HT3.out.move fun k hk ho => by
      have hne : ¬ k = w2.heap.size := by
        rcases ho with h | h
        · have := HOK.out k h; have h1 := K2.out.size; have h2 := HSZ.out; omega
        · omega
      refine ⟨ho.imp id fun h => by have h1 := K2.out.size; have h2 := HSZ.out; omega, ?_⟩
      rw [Below.heap_setCell _ ⟨w2.heap.size, 1, none⟩ _ k hne, Below.heap_setCell _ ⟨w2.heap.size, 0, none⟩ _ k hne]
    have hg9 : w.heap.size + 3 ≤ w2.heap.size := by have h1 := K2.out.size; have h2 := HSZ.out; have h3 := K3.out.size; omega
    generalize ((w3.setCell ⟨w2.heap.size, 0, none⟩ (.string x3)).setCell ⟨w2.heap.size, 1, none⟩ (.slice A3 n3 c3)) = W5 at *
    have HK5 := Lib.hid KT5
    have HC9 := Lib.hid C9
    have HS5 : Hid (B ≤ W5.heap.size) := Nat.le_trans HBL1.out KT5.size
    clear KT5 C9
    have HS14 : Hid (∀ w', KT B W5 w' → w'.cell? ⟨w.heap.size, 1, none⟩ = some (.slice (some ⟨bl, o, none⟩) 3 cc) ∧ w'.cell? ⟨w.heap.size + 1, 1, none⟩ = some (.slice (some ⟨bv, ov, none⟩) 3 cv) ∧ w'.cell? ⟨bl, o + 2, none⟩ = some (.string aT) ∧ w'.cell? ⟨bl, o + 3, none⟩ = some (.slice A2 n2 cc2) ∧ w'.cell? ⟨bl, o + 4, none⟩ = some (.string aU) ∧ w'.cell? ⟨bl, o + 5, none⟩ = some (.slice A4 n4 c4) ∧ w'.cell? ⟨bv, ov + 2, none⟩ = some (.string aX) ∧ w'.cell? ⟨bv, ov + 3, none⟩ = some (.slice A5 n5 c5) ∧ w'.cell? ⟨bv, ov + 4, none⟩ = some (.string aZ) ∧ w'.cell? ⟨bv, ov + 5, none⟩ = some (.slice A6 n6 c6) ∧ w'.cell? ⟨w2.heap.size, 0, none⟩ = some (.string x3) ∧ w'.cell? ⟨w2.heap.size, 1, none⟩ = some (.slice A3 n3 c3)) := fun w' h => by
      obtain ⟨u0, u1, u2, u3, u4, u5, u6, u7, u8, u9⟩ := HS.out w' (HK5.out.trans h)
      exact ⟨u0, u1, u2, u3, u4, u5, u6, u7, u8, u9, block_cell (h.tr _ _ _ HC9.out) 0, block_cell (h.tr _ _ _ HC9.out) 1⟩
    refine wp_region_noPanic ?_
    refine wp_region_held_drew (S := (fun w' => w'.cell? ⟨w.heap.size, 1, none⟩ = some (.slice (some ⟨bl, o, none⟩) 3 cc) ∧ w'.cell? ⟨w.heap.size + 1, 1, none⟩ = some (.slice (some ⟨bv, ov, none⟩) 3 cv) ∧ w'.cell? ⟨bl, o + 2, none⟩ = some (.string aT) ∧ w'.cell? ⟨bl, o + 3, none⟩ = some (.slice A2 n2 cc2) ∧ w'.cell? ⟨bl, o + 4, none⟩ = some (.string aU) ∧ w'.cell? ⟨bl, o + 5, none⟩ = some (.slice A4 n4 c4) ∧ w'.cell? ⟨bv, ov + 2, none⟩ = some (.string aX) ∧ w'.cell? ⟨bv, ov + 3, none⟩ = some (.slice A5 n5 c5) ∧ w'.cell? ⟨bv, ov + 4, none⟩ = some (.string aZ) ∧ w'.cell? ⟨bv, ov + 5, none⟩ = some (.slice A6 n6 c6) ∧ w'.cell? ⟨w2.heap.size, 0, none⟩ = some (.string x3) ∧ w'.cell? ⟨w2.heap.size, 1, none⟩ = some (.slice A3 n3 c3))) (by kernel_rfl) (by exact HS14.out _ (.up (up_drew (Below.refl _ _)) HS5.out)) (fun hHeld => ?_)
    refine tk 0 ?_ rfl ?_ ?_
    rotate_left
    · intro W hSW; (try dsimp only at hSW); go_simp; try with_reducible rfl
    try simp only [Act.put, zA, zB, zC, zD, zE, zF]
    refine tk 1 ?_ rfl ?_ ?_
    rotate_left
    · intro W hSW; (try dsimp only at hSW); go_simp; try with_reducible rfl
    try simp only [Act.put, zA, zB, zC, zD, zE, zF]
    refine tk 2 ?_ rfl ?_ ?_
    rotate_left
    · intro W hSW; (try dsimp only at hSW); go_simp; try with_reducible rfl
    try simp only [Act.put, zA, zB, zC, zD, zE, zF]
    refine tk 3 ?_ rfl ?_ ?_
    rotate_left
    · intro W hSW; (try dsimp only at hSW); go_simp; try with_reducible rfl
    try simp only [Act.put, zA, zB, zC, zD, zE, zF]
    refine tk 4 ?_ rfl ?_ ?_
    rotate_left
    · intro W hSW; (try dsimp only at hSW); go_simp; try with_reducible rfl
    try simp only [Act.put, zA, zB, zC, zD, zE, zF]
    refine tk 5 ?_ rfl ?_ ?_
    rotate_left
    · intro W hSW; (try dsimp only at hSW); go_simp; try with_reducible rfl
    try simp only [Act.put, zA, zB, zC, zD, zE, zF]
    refine tk 6 ?_ rfl ?_ ?_
    rotate_left
    · intro W hSW; (try dsimp only at hSW); go_simp; try with_reducible rfl
    try simp only [Act.put, zA, zB, zC, zD, zE, zF]
    refine tk 7 ?_ rfl ?_ ?_
    rotate_left
    · intro W hSW; (try dsimp only at hSW); go_simp; try with_reducible rfl
    try simp only [Act.put, zA, zB, zC, zD, zE, zF]
    refine tk 8 ?_ rfl ?_ ?_
    rotate_left
    · intro W hSW; (try dsimp only at hSW); go_simp; try with_reducible rfl
    try simp only [Act.put, zA, zB, zC, zD, zE, zF]
    refine tk 9 ?_ rfl ?_ ?_
    rotate_left
    · intro W hSW; (try dsimp only at hSW); go_simp; try with_reducible rfl
    try simp only [Act.put, zA, zB, zC, zD, zE, zF]
    refine tk 10 ?_ rfl ?_ ?_
    rotate_left
    · intro W hSW; (try dsimp only at hSW); go_simp; try with_reducible rfl
    try simp only [Act.put, zA, zB, zC, zD, zE, zF]
    refine wpAnyH_ready (rs := [11]) (by kernel_rfl) (by simp) ?_
    refine AllReadyH.cons rfl (fun K hK => ?_) AllReadyH.nil
    go_simp
    go_at_call 91
    (with_reducible refine (HIS2.out _ (KW.out.trans (HK5.out.trans (.up (up_drew (Below.refl _ _)) HS5.out))) (HTB5.out.up (up_drew (Below.refl _ _)))).mono ?_)
    rintro e w6 ⟨⟨x6, B6, m6, c6', rfl, ht6'⟩, htb6, hk6⟩
    have K6 : Hid (KT B W5 w6) := (KT.up (up_drew (Below.refl _ _)) HS5.out).trans hk6
    have HT6 : Hid (TAt w6 (fun k => ok k ∨ w.heap.size + 2 < k) tz (.agg #[.string x6, .slice B6 m6 c6'])) := ht6'.weak fun k hk => hk.imp id fun h => by have h1 := HK5.out.size; have h2 := HSZ.out; simp [drew_heap] at h; omega
    have HT56 := Lib.hid (HT5.out.kt K6.out)
    have HTB6 := Lib.hid htb6
    have HS6 : Hid (B ≤ w6.heap.size) := Nat.le_trans HS5.out K6.out.size
    clear ht6' htb6 hk6
    refine hK.out _ _ (by exact HS14.out _ K6.out) (fun hHeld => ?_)
    clear hK
    try simp only [Act.put, zA, zB, zC, zD, zE, zF]
    refine wpAnyH_ready (rs := [12]) (by kernel_rfl) (by simp) ?_
    refine AllReadyH.cons rfl (fun K hK => ?_) AllReadyH.nil
    go_simp
    refine hK.out _ _ (by exact HS14.out _ (K6.out.trans (.up (up1 w6 _) HS6.out))) (fun hHeld => ?_)
    clear hK
    try simp only [Act.put, zA, zB, zC, zD, zE, zF]
    refine wpAnyH_ready (rs := [13]) (by kernel_rfl) (by simp) ?_
    refine AllReadyH.cons rfl (fun K hK => ?_) AllReadyH.nil
    go_simp
    go_at_call 71
    have HP6 : Hid (∀ k, (w6.alloc (.cells #[.string x3, .slice A3 n3 c3, .string x6, .slice B6 m6 c6'] 59)).heap.size ≤ k → ok k ∨ w.heap.size + 2 < k) := fun k hk => .inr (by have h1 := K6.out.size; have h2 := HSZ.out; have h3 := HK5.out.size; simp at hk; omega)
    (with_reducible refine (list2T [112] tx tz (w6.alloc (.cells #[.string x3, .slice A3 n3 c3, .string x6, .slice B6 m6 c6'] 59)) w6.heap.size x3 x6 A3 B6 n3 c3 m6 c6' (fun k => ok k ∨ w.heap.size + 2 < k) HP6.out (block_new w6 _) (HT56.out.up (up1 w6 _)) (HT6.out.up (up1 w6 _))).mono ?_)
    rintro e w7 ⟨⟨x7, B7, m7, c7', rfl, ht7⟩, hb7⟩
    have K7 : Hid (KT B W5 w7) := K6.out.trans (.up (up_trans (up1 w6 _) hb7) HS6.out)
    have HTB7 := Lib.hid (HTB6.out.up (up_trans (up1 w6 (.cells #[.string x3, .slice A3 n3 c3, .string x6, .slice B6 m6 c6'] 59)) hb7))
    have HT7 := Lib.hid ht7
    have R7 := HR.out w7 (HK5.out.trans K7.out)
    have rc0 := block_cell R7 0
    have rc1 := block_cell R7 1
    have fr0 := block_free R7 0
    have fr1 := block_free R7 1
    have lr7 := lt_of_block R7
    have HR7 := Lib.hid R7
    obtain ⟨q0, q1, q2, q3, q4, q5, q6, q7, q8, q9, q10, q11⟩ := HS14.out w7 K7.out
    clear ht7 hb7 R7
    refine hK.out _ _ (by exact HS14.out _ K7.out) (fun hHeld => ?_)
    clear hK
    try simp only [Act.put, zA, zB, zC, zD, zE, zF]
    refine wpAnyH_ready (rs := [14]) (by kernel_rfl) (by simp) ?_
    refine AllReadyH.cons rfl (fun K hK => ?_) AllReadyH.nil
    go_simp
    refine hK.out _ _ (by exact ⟨(cell_box (by omega) _ _).trans q0, (cell_box (by omega) _ _).trans q1, (cell_box nbl _ _).trans q2, (cell_box nbl _ _).trans q3, (cell_box nbl _ _).trans q4, (cell_box nbl _ _).trans q5, (cell_box nbv _ _).trans q6, (cell_box nbv _ _).trans q7, (cell_box nbv _ _).trans q8, (cell_box nbv _ _).trans q9, (cell_box (by omega) _ _).trans q10, (cell_box (by omega) _ _).trans q11⟩) (fun hHeld => ?_)
    clear hK
    try simp only [Act.put, zA, zB, zC, zD, zE, zF]
    refine wpAnyH_done (by kernel_rfl) ?_ _
    refine NoPanic.normal ?_
    go_wp2
    refine bodyPost_ret (v := .agg #[.string x7, .slice B7 m7 c7']) (by simp [results, Tryz.results91, go_sem, rc0, rc1, lr7]) rfl ?_
    exact HQ.out w7 _ _ _ _ _ _ HR7.out HT7.out HTB7.out (KW.out.trans (HK5.out.trans K7.out))
set_option maxHeartbeats 8000000 in
set_option maxRecDepth 100000 in
theorem l2Turn_f (x : V) (s : List UInt8) (ta : NT) (hsub : LTv x) : LTu (.f x) (.loop s ta) := by
  intro t env A c vt vv w ok B gb nm a b ls env' hfnd hT hE hV hok hTB hBw hB ht3 hlen hvok hty hnm ha hb hls
  obtain ⟨hB', ht3', hlen', hno, _⟩ := fnd_spec hB t ht3 hlen
  obtain ⟨P, m, cc, A', c'', hT', hE', HF⟩ := l2Find_at t env A c vt w hT hE hB ht3
  rw [hfnd] at hT' hE' HF hB' ht3' hlen' hno
  simp only at hT' hE' HF hB' ht3' hlen' hno
  have hs : (NT.loop s ta).toTr = .mk [] [.mk [114, 101, 99] [], .mk s [], ta.toTr] := rfl
  rw [hs] at hT' HF
  simp only [Tr.atom] at hT' HF
  obtain ⟨xt, At, nt, ct0, rfl⟩ := hT.form
  obtain ⟨bl, o, ct, hag, A2, n2, cc2, A4, n4, c4, HC, HH⟩ := three_keeps hT'
  obtain ⟨_, h1, h2, h3⟩ := agg_inj hag
  subst h1 h2 h3
  have hbl : bl < w.heap.size := World.block_lt_of_cell? w _ (HC.out w (.refl _ _)).1
  obtain ⟨bv, ov, cv, rfl, hbv, A5, n5, c5, HCV, HHV⟩ := two_keeps hV
  have HIS : Hid (∀ w1 P4 m4 cc4 A4' c4', KT B w w1 → TBx w1 B gb nm a b ls → TAt w1 (fun _ => True) ta.toTr (.agg #[.string (St ta.toTr.atom), .slice P4 m4 cc4]) → EnvAt w1 ((s, .loop s ta) :: env') A4' → Calls Tryz.prog 91 #[.pointer (some ⟨gb, 0, none⟩), .agg #[.string (St ta.toTr.atom), .slice P4 m4 cc4], .slice A4' (env'.length + 1) c4', .agg #[.string (St x.toTr.atom), .slice A5 n5 c5]] w1 (TuP w1 ok B gb nm a b (x.turnN (mapF nm a b) ((s, .loop s ta) :: env') ta) (ls ++ x.atN ((s, .loop s ta) :: env') ta nm))) := fun w1 P4 m4 cc4 A4' c4' h h2 h3 h4 => hsub ta ((s, .loop s ta) :: env') A4' c4' _ _ w1 ok B gb nm a b ls h3 h4 (HCV.out w1 h.tr).2.2.out (fun k hk => Nat.lt_of_lt_of_le (hok k hk) h.size) h2 (Nat.le_trans hBw h.size) (hB'.cons ht3' hlen') ht3'.2 (by simp only [NT.atoms] at hlen'; simp; omega) hvok hty hnm ha hb (by simp only [V.nodes] at hls; omega)
  have HEN : Hid (∀ w1, KT B w w1 → Calls Tryz.prog 141 #[.agg #[.string (St []), .slice (some ⟨bl, o, none⟩) 3 cc], .slice A' env'.length c''] w1 (fun e w' => Below w1.heap.size w1 w' ∧ ∃ P n cc A c', e = .returned (.tuple #[.agg #[.string (St ta.toTr.atom), .slice P n cc], .slice A (env'.length + 1) c']) ∧ TAt w' (fun _ => True) ta.toTr (.agg #[.string (St ta.toTr.atom), .slice P n cc]) ∧ EnvAt w' ((s, .loop s ta) :: env') A)) := fun w1 h => l2Enter_any s ta env' A' c'' _ w1 (hT'.kt h) (hE'.kt h) (by omega)
  have hv1 : (V.f x).turnN (mapF nm a b) env' (.loop s ta) = .f (x.turnN (mapF nm a b) ((s, .loop s ta) :: env') ta) := rfl
  have hv2 : (V.f x).atN env' (.loop s ta) nm = x.atN ((s, .loop s ta) :: env') ta nm := rfl
  rw [hv1, hv2]
  have HQ : Hid (∀ w' c d xx AA nn cx, w'.heap[w.heap.size + 2]? = some (.cells #[c, d] 59 (0, 0)) → TAt w' (fun k => ok k ∨ w.heap.size + 2 < k) (.mk [] [.mk [102] [], (x.turnN (mapF nm a b) ((s, .loop s ta) :: env') ta).toTr]) (.agg #[.string xx, .slice AA nn cx]) → TBx w' B gb nm a b (ls ++ x.atN ((s, .loop s ta) :: env') ta nm) → KT B w w' → TuP w ok B gb nm a b (.f (x.turnN (mapF nm a b) ((s, .loop s ta) :: env') ta)) (ls ++ x.atN ((s, .loop s ta) :: env') ta nm) (.returned (.agg #[.string xx, .slice AA nn cx])) ((w'.setCell ⟨w.heap.size + 2, 0, none⟩ (.string xx)).setCell ⟨w.heap.size + 2, 1, none⟩ (.slice AA nn cx))) := fun w' c d xx AA nn cx h1 h2 h3 h4 => TuP.fin (v' := .f (x.turnN (mapF nm a b) ((s, .loop s ta) :: env') ta)) hok hBw h1 h2 h3 h4
  have HBL := Lib.hid hBw
  have HTB := Lib.hid hTB
  have nbl : ¬ bl = w.heap.size + 2 := by omega
  have nbv : ¬ bv = w.heap.size + 2 := by omega
  clear hT hE hV hB ht3 hlen hvok hT' hE' hs hfnd hB' ht3' hlen' hno hok hBw hty hnm ha hb hls hag hbl hbv hTB hv1 hv2 hsub
  generalize TuP w ok B gb nm a b (.f (x.turnN (mapF nm a b) ((s, .loop s ta) :: env') ta)) (ls ++ x.atN ((s, .loop s ta) :: env') ta nm) = Q at *
  generalize htx : (x.turnN (mapF nm a b) ((s, .loop s ta) :: env') ta).toTr = tx at *
  unfold TuP at HIS
  simp only [htx] at HIS
  generalize ls ++ x.atN ((s, .loop s ta) :: env') ta nm = ls' at *
  generalize St ta.toTr.atom = aT at *
  generalize St x.toTr.atom = aX at *
  clear htx
  go_enter Tryz.func91, Tryz.ntmps91
  go_upto_region 7 with (go_at_call 140; (with_reducible refine (HF.out _ (up_alloc (up_alloc (up1 w _) _) _)).mono ?_); rintro e w1 ⟨rfl, hb1⟩; have K0 := block_up hb1 (block_alloc (old2 w (.cells #[.string xt, .slice At nt ct0] 59) (.cells #[.string (St []), .slice (some ⟨bv, ov, none⟩) 2 cv] 59)) (.cells #[.string ⟨#[]⟩, .slice none 0 0] 59)); have K1 := block_up hb1 (block_alloc (new2 w (.cells #[.string xt, .slice At nt ct0] 59) (.cells #[.string (St []), .slice (some ⟨bv, ov, none⟩) 2 cv] 59)) (.cells #[.string ⟨#[]⟩, .slice none 0 0] 59)); have K2 := block_up hb1 (new3 w (.cells #[.string xt, .slice At nt ct0] 59) (.cells #[.string (St []), .slice (some ⟨bv, ov, none⟩) 2 cv] 59) (.cells #[.string ⟨#[]⟩, .slice none 0 0] 59)); have r0 : w1.cell? ⟨w.heap.size, 0, none⟩ = some (.string xt) := block_cell K0 0; have r1 : w1.cell? ⟨w.heap.size, 1, none⟩ = some (.slice At nt ct0) := block_cell K0 1; have g0 := block_free K0 0; have g1 := block_free K0 1; have lr := lt_of_block K0; have HB1 := Lib.hid (up_trans (up_alloc (up_alloc (up1 w _) _) _) hb1); have HK0 := Lib.hid K0; have HK1 := Lib.hid K1; have HK2 := Lib.hid K2; clear hb1 K0 K1 K2)
  obtain ⟨BW, C0, C1, C2⟩ := set_box3 HB1.out HK0.out HK1.out HK2.out (.string (St [])) (.slice (some ⟨bl, o, none⟩) 3 cc)
  generalize ((w1.setCell ⟨w.heap.size, 0, none⟩ (.string (St []))).setCell ⟨w.heap.size, 1, none⟩ (.slice (some ⟨bl, o, none⟩) 3 cc)) = W1 at *
  have HBW := Lib.hid BW
  have KW : Hid (KT B w W1) := .up BW HBL.out
  have hsz : w.heap.size + 3 ≤ W1.heap.size := by have := lt_of_block C2; omega
  have HSZ := Lib.hid hsz
  have HC0 := Lib.hid C0
  have HC1 := Lib.hid C1
  have HC2 := Lib.hid C2
  clear BW C0 C1 C2 r0 r1 g0 g1 lr HK0 HK1 HK2 HB1 hsz
  have HBL1 : Hid (B ≤ W1.heap.size) := Nat.le_trans HBL.out HBW.out.size
  have HR : Hid (∀ w', KT B W1 w' → w'.heap[w.heap.size + 2]? = some (.cells #[.string ⟨#[]⟩, .slice none 0 0] 59 (0, 0))) := fun w' h => h.tr _ _ _ HC2.out
  have e0 : W1.cell? ⟨w.heap.size, 0, none⟩ = some (.string (St [])) := block_cell HC0.out 0
  have v0 : W1.cell? ⟨w.heap.size + 1, 0, none⟩ = some (.string (St [])) := block_cell HC1.out 0
  have v1 : W1.cell? ⟨w.heap.size + 1, 1, none⟩ = some (.slice (some ⟨bv, ov, none⟩) 2 cv) := block_cell HC1.out 1
  have v0' : W1.cell? ⟨w.heap.size + 1, 0, none⟩ = some (.string ⟨#[]⟩) := v0
  have lv := lt_of_block HC1.out
  have lt0 := lt_of_block HC0.out
  have et : W1.cell? ⟨w.heap.size, 1, none⟩ = some (.slice (some ⟨bl, o, none⟩) 3 cc) := block_cell HC0.out 1
  have e0' : W1.cell? ⟨w.heap.size, 0, none⟩ = some (.string ⟨#[]⟩) := e0
  go_wp2_with (first | (go_at_call 125; (with_reducible refine (HHV.out _ KW.out.tr).mono ?_); rintro e w2 ⟨rfl, hb2⟩; have K2 : Hid (KT B W1 w2) := .up hb2 HBL1.out; have HTB2 := Lib.hid ((HTB.out.up HBW.out).up hb2); have y0 : w2.cell? ⟨w.heap.size, 0, none⟩ = some (.string (St [])) := cell_up hb2 e0; have y1 := cell_up hb2 et; have y2 : w.heap.size < w2.heap.size := Nat.lt_of_lt_of_le lt0 hb2.size; clear hb2) | (go_at_call 141; (with_reducible refine (HEN.out _ (KW.out.trans K2.out)).mono ?_); rintro e w4 ⟨hb4, P4, m4, cc4, A4', c4', rfl, ht4, he4⟩; have K4 : Hid (KT B W1 w4) := K2.out.trans (.up hb4 (Nat.le_trans HBL1.out K2.out.size)); have HTB4 := Lib.hid (HTB2.out.up hb4); have HT4 := Lib.hid ht4; have HE4 := Lib.hid he4; clear hb4 ht4 he4))
  have HB5 : Hid (Below w4.heap.size w4 (w4.alloc (.cells #[.string aT, .slice P4 m4 cc4] 59))) := up1 w4 _
  have CB := block_new w4 (.cells #[.string aT, .slice P4 m4 cc4] 59)
  generalize (w4.alloc (.cells #[.string aT, .slice P4 m4 cc4] 59)) = W5 at *
  have HS4 : Hid (B ≤ w4.heap.size) := Nat.le_trans HBL1.out K4.out.size
  have HK5 : Hid (KT B W1 W5) := K4.out.trans (.up HB5.out HS4.out)
  have HS5 : Hid (B ≤ W5.heap.size) := Nat.le_trans HBL1.out HK5.out.size
  have HTB5 := Lib.hid (HTB4.out.up HB5.out)
  have HT5 := Lib.hid (HT4.out.up HB5.out)
  have HE5 := Lib.hid (HE4.out.up HB5.out)
  have HCB := Lib.hid CB
  have ng4 : ¬ w4.heap.size = w.heap.size + 2 := by have h1 := K4.out.size; have h2 := HSZ.out; omega
  have HS : Hid (∀ w', KT B W5 w' → w'.cell? ⟨w4.heap.size, 0, none⟩ = some (.string aT) ∧ w'.cell? ⟨w4.heap.size, 1, none⟩ = some (.slice P4 m4 cc4) ∧ w'.cell? ⟨w.heap.size + 1, 1, none⟩ = some (.slice (some ⟨bv, ov, none⟩) 2 cv) ∧ w'.cell? ⟨bv, ov + 2, none⟩ = some (.string aX) ∧ w'.cell? ⟨bv, ov + 3, none⟩ = some (.slice A5 n5 c5)) := fun w' h => by
    obtain ⟨e2, e3, _⟩ := HCV.out w' ((KW.out.tr.trans HK5.out.tr).trans h.tr)
    exact ⟨block_cell (h.tr _ _ _ HCB.out) 0, block_cell (h.tr _ _ _ HCB.out) 1, block_cell (h.tr _ _ _ (HK5.out.tr _ _ _ HC1.out)) 1, e2, e3⟩
  refine wp_region_noPanic ?_
  refine wp_region_held_drew (S := (fun w' => w'.cell? ⟨w4.heap.size, 0, none⟩ = some (.string aT) ∧ w'.cell? ⟨w4.heap.size, 1, none⟩ = some (.slice P4 m4 cc4) ∧ w'.cell? ⟨w.heap.size + 1, 1, none⟩ = some (.slice (some ⟨bv, ov, none⟩) 2 cv) ∧ w'.cell? ⟨bv, ov + 2, none⟩ = some (.string aX) ∧ w'.cell? ⟨bv, ov + 3, none⟩ = some (.slice A5 n5 c5))) (by kernel_rfl) (by exact HS.out _ (.up (up_drew (Below.refl _ _)) HS5.out)) (fun hHeld => ?_)
  refine tk 0 ?_ rfl ?_ ?_
  rotate_left
  · intro W hSW; (try dsimp only at hSW); go_simp; try with_reducible rfl
  try simp only [Act.put, zA, zB, zC, zD, zE, zF]
  refine tk 1 ?_ rfl ?_ ?_
  rotate_left
  · intro W hSW; (try dsimp only at hSW); go_simp; try with_reducible rfl
  try simp only [Act.put, zA, zB, zC, zD, zE, zF]
  refine tk 2 ?_ rfl ?_ ?_
  rotate_left
  · intro W hSW; (try dsimp only at hSW); go_simp; try with_reducible rfl
  try simp only [Act.put, zA, zB, zC, zD, zE, zF]
  refine tk 3 ?_ rfl ?_ ?_
  rotate_left
  · intro W hSW; (try dsimp only at hSW); go_simp; try with_reducible rfl
  try simp only [Act.put, zA, zB, zC, zD, zE, zF]
  refine tk 4 ?_ rfl ?_ ?_
  rotate_left
  · intro W hSW; (try dsimp only at hSW); go_simp; try with_reducible rfl
  try simp only [Act.put, zA, zB, zC, zD, zE, zF]
  refine tk 5 ?_ rfl ?_ ?_
  rotate_left
  · intro W hSW; (try dsimp only at hSW); go_simp; try with_reducible rfl
  try simp only [Act.put, zA, zB, zC, zD, zE, zF]
  refine tk 6 ?_ rfl ?_ ?_
  rotate_left
  · intro W hSW; (try dsimp only at hSW); go_simp; try with_reducible rfl
  try simp only [Act.put, zA, zB, zC, zD, zE, zF]
  refine wpAnyH_ready (rs := [7]) (by kernel_rfl) (by simp) ?_
  refine AllReadyH.cons rfl (fun K hK => ?_) AllReadyH.nil
  go_simp
  go_at_call 91
  (with_reducible refine (HIS.out _ _ _ _ _ _ (KW.out.trans (HK5.out.trans (.up (up_drew (Below.refl _ _)) HS5.out))) (HTB5.out.up (up_drew (Below.refl _ _))) (TAt.up (up_drew (Below.refl _ _)) HT5.out) (EnvAt.up (up_drew (Below.refl _ _)) HE5.out)).mono ?_)
  rintro e w6 ⟨⟨x6, B6, m6, c6', rfl, ht6'⟩, htb6, hk6⟩
  have K6 : Hid (KT B W5 w6) := (KT.up (up_drew (Below.refl _ _)) HS5.out).trans hk6
  have HT6 : Hid (TAt w6 (fun k => ok k ∨ w.heap.size + 2 < k) tx (.agg #[.string x6, .slice B6 m6 c6'])) := ht6'.weak fun k hk => hk.imp id fun h => by have h1 := HK5.out.size; have h2 := HSZ.out; simp [drew_heap] at h; omega
  have HTB6 := Lib.hid htb6
  have HS6 : Hid (B ≤ w6.heap.size) := Nat.le_trans HS5.out K6.out.size
  clear ht6' htb6 hk6
  refine hK.out _ _ (by exact HS.out _ K6.out) (fun hHeld => ?_)
  clear hK
  try simp only [Act.put, zA, zB, zC, zD, zE, zF]
  refine wpAnyH_ready (rs := [8]) (by kernel_rfl) (by simp) ?_
  refine AllReadyH.cons rfl (fun K hK => ?_) AllReadyH.nil
  go_simp
  refine hK.out _ _ (by exact HS.out _ (K6.out.trans (.up (up1 w6 _) HS6.out))) (fun hHeld => ?_)
  clear hK
  try simp only [Act.put, zA, zB, zC, zD, zE, zF]
  refine wpAnyH_ready (rs := [9]) (by kernel_rfl) (by simp) ?_
  refine AllReadyH.cons rfl (fun K hK => ?_) AllReadyH.nil
  go_simp
  go_at_call 71
  have HP6 : Hid (∀ k, (w6.alloc (.cells #[.string x6, .slice B6 m6 c6'] 59)).heap.size ≤ k → ok k ∨ w.heap.size + 2 < k) := fun k hk => .inr (by have h1 := K6.out.size; have h2 := HSZ.out; have h3 := HK5.out.size; simp at hk; omega)
  (with_reducible refine (list1T [102] tx (w6.alloc (.cells #[.string x6, .slice B6 m6 c6'] 59)) w6.heap.size x6 B6 m6 c6' (fun k => ok k ∨ w.heap.size + 2 < k) HP6.out (block_new w6 _) (HT6.out.up (up1 w6 _))).mono ?_)
  rintro e w7 ⟨⟨x7, B7, m7, c7', rfl, ht7⟩, hb7⟩
  have K7 : Hid (KT B W5 w7) := K6.out.trans (.up (up_trans (up1 w6 _) hb7) HS6.out)
  have HTB7 := Lib.hid (HTB6.out.up (up_trans (up1 w6 (.cells #[.string x6, .slice B6 m6 c6'] 59)) hb7))
  have HT7 := Lib.hid ht7
  have R7 := HR.out w7 (HK5.out.trans K7.out)
  have rc0 := block_cell R7 0
  have rc1 := block_cell R7 1
  have fr0 := block_free R7 0
  have fr1 := block_free R7 1
  have lr7 := lt_of_block R7
  have HR7 := Lib.hid R7
  obtain ⟨q0, q1, q2, q3, q4⟩ := HS.out w7 K7.out
  clear ht7 hb7 R7
  refine hK.out _ _ (by exact HS.out _ K7.out) (fun hHeld => ?_)
  clear hK
  try simp only [Act.put, zA, zB, zC, zD, zE, zF]
  refine wpAnyH_ready (rs := [10]) (by kernel_rfl) (by simp) ?_
  refine AllReadyH.cons rfl (fun K hK => ?_) AllReadyH.nil
  go_simp
  refine hK.out _ _ (by exact ⟨(cell_box ng4 _ _).trans q0, (cell_box ng4 _ _).trans q1, (cell_box (by omega) _ _).trans q2, (cell_box nbv _ _).trans q3, (cell_box nbv _ _).trans q4⟩) (fun hHeld => ?_)
  clear hK
  try simp only [Act.put, zA, zB, zC, zD, zE, zF]
  refine wpAnyH_done (by kernel_rfl) ?_ _
  refine NoPanic.normal ?_
  go_wp2
  refine bodyPost_ret (v := .agg #[.string x7, .slice B7 m7 c7']) (by simp [results, Tryz.results91, go_sem, rc0, rc1, lr7]) rfl ?_
  exact HQ.out w7 _ _ _ _ _ _ HR7.out HT7.out HTB7.out (KW.out.trans (HK5.out.trans K7.out))
theorem l2Turn_any : ∀ (k : Nat) (v : V), v.nodes ≤ k → LTv v := by
  intro k
  induction k with
  | zero => intro v h; have : 1 ≤ v.nodes := by cases v <;> simp only [V.nodes] <;> omega
            omega
  | succ k ih =>
    intro v hk t env A c vt vv w ok B gb nm a b ls hT hE hV hok hTB hBw hB ht3 hlen hvok hty hnm ha hb hls
    obtain ⟨k1, k2⟩ := fnd_turn hB t (mapF nm a b) v
    have k3 : v.atN env t nm = v.atN (fnd env t).2 (fnd env t).1 nm := by unfold V.atN; rw [k2]
    have hf := fnd_spec hB t ht3 hlen
    have hty' : v.isOfN 100 (fnd env t).2 (fnd env t).1 = true := by rw [← hf.2.2.2.2]; exact hty
    have hnm9 := name_ok (.inl hnm)
    rw [k1, k3]
    have go : ∀ t', (fnd env t).1 = t' → LTu v t' → Calls Tryz.prog 91 #[.pointer (some ⟨gb, 0, none⟩), vt, .slice A env.length c, vv] w (TuP w ok B gb nm a b (v.turnN (mapF nm a b) (fnd env t).2 (fnd env t).1) (ls ++ v.atN (fnd env t).2 (fnd env t).1 nm)) := fun t' ht h => by
      rw [ht] at hty' ⊢
      exact h t env A c vt vv w ok B gb nm a b ls _ (by rw [← ht]) hT hE hV hok hTB hBw hB ht3 hlen hvok hty' hnm ha hb hls
    cases htt : (fnd env t).1 with
    | zero => rw [htt] at hty'; cases v <;> cases hty'
    | one =>
      rw [htt] at hty'
      obtain rfl : v = .u := by cases v <;> first | rfl | cases hty'
      have := l2Turn_stay .u .one [49] rfl (by simp) (fun nm a b env' _ _ _ => ⟨rfl, rfl⟩) (by simp [V.toTr, Tr.atom]) nm (fun h => hnm9.2.2.1 h.symm) t env A c vt vv w ok B gb nm a b ls _ rfl (by rw [← htt]) hT hE hV hok hTB hBw hB ht3 hlen hvok hty' hnm ha hb hls
      exact this
    | name s =>
      rw [htt] at hty'
      have hno : lookN s (fnd env t).2 = none := hf.2.2.2.1 s htt
      obtain ⟨el, rfl⟩ : ∃ el, v = .el el := by cases v <;> first | exact ⟨_, rfl⟩ | (simp [V.isOfN, hno] at hty')
      have hs3 : nmOk s := by have := hf.2.1; rw [htt] at this; exact this
      have hel : el ≠ [] := by rintro rfl; cases hvok
      by_cases hs : s = nm
      · subst hs
        exact l2Turn_name el s t env A c vt vv w ok B gb a b ls _ (by rw [← htt]) hT hE hV hok hTB hBw hB ht3 hlen hvok hty' hnm ha hb hls
      · exact l2Turn_stay (.el el) (.name s) s rfl hs3.1 (fun nm a b env' hl _ hne => by
          have h1 : ¬ s = nm := hne
          exact ⟨by simp [V.turnN, hl s rfl, mapF, h1], by simp [V.atN, V.labsN, hl s rfl, h1]⟩) (by simpa [V.toTr, Tr.atom] using hel) nm hs t env A c vt vv w ok B gb nm a b ls _ rfl (by rw [← htt]) hT hE hV hok hTB hBw hB ht3 hlen hvok hty' hnm ha hb hls
    | sum ta tb =>
      rw [htt] at hty'
      rw [← htt]
      cases v with
      | l x => exact go _ htt (l2Turn_l x ta tb (ih x (by simp only [V.nodes] at hk; omega)))
      | r x => exact go _ htt (l2Turn_r x ta tb (ih x (by simp only [V.nodes] at hk; omega)))
      | _ => cases hty'
    | prod ta tb =>
      rw [htt] at hty'
      rw [← htt]
      cases v with
      | p x z => exact go _ htt (l2Turn_p x z ta tb (ih x (by simp only [V.nodes] at hk; omega)) (ih z (by simp only [V.nodes] at hk; omega)))
      | _ => cases hty'
    | loop s ta =>
      rw [htt] at hty'
      rw [← htt]
      cases v with
      | f x => exact go _ htt (l2Turn_f x s ta (ih x (by simp only [V.nodes] at hk; omega)))
      | _ => cases hty'

end Go.Proofs.YtpokompplapkhaaGreatDoor
