/- What stays while a walk goes on; with and pair. Holes in the program's memory: rows of contexts with what is left out, and the box that grows. -/
import Derived.Test.YtpokompplapkhaaGreatDoorIsOf
import Derived.Test.YtpokompplapkhaaGreatDoorNG
import Derived.Test.YtpokompplapkhaaGreatDoorRow4
namespace Go.Proofs.YtpokompplapkhaaGreatDoor
set_option maxHeartbeats 1000000
open Go.RowKit
set_option linter.unusedVariables false
set_option linter.unusedSimpArgs false
structure Kp (w w' : World) : Prop where
 ty : Keeps 124 w w'
 fr : Keeps 155 w w'
 fs : Keeps 190 w w'
 vl : Keeps 88 w w'
 cl : Keeps 71 w w'
theorem Kp.up {w w' : World} (h : Below w.heap.size w w') : Kp w w' := ⟨.up h, .up h, .up h, .up h, .up h⟩
theorem Kp.trans {w w1 w2 : World} (h : Kp w w1) (k : Kp w1 w2) : Kp w w2 := ⟨h.ty.trans k.ty, h.fr.trans k.fr, h.fs.trans k.fs, h.vl.trans k.vl, h.cl.trans k.cl⟩
theorem Kp.refl (w : World) : Kp w w := .up (Below.refl _ _)
theorem FAt.kp {w w1 : World} (hb : Kp w w1) : ∀ {env : List (Ty × Nat)} {p : Option Addr}, FAt w env p -> FAt w1 env p
 | [], _, h => h
 | _ :: _, _, ⟨g, q, pr, h1, h2, h3, h4, h5⟩ => ⟨g, q, pr, h1, hb.fs _ _ _ h2, hb.fr _ _ _ h3, h4.keep hb.ty, FAt.kp hb h5⟩
theorem with_any (sg : Int) (q : Option Addr) (w : World) : Calls Tryz.prog 114 #[.int .u8 sg, .pointer q] w fun e w' => ∃ g, e = .returned (.pointer (some ⟨g, 0, none⟩)) /\ w'.heap[g]? = some (.cells #[.int .u8 sg, .string (St []), .pointer q, .pointer none] 88 (0, 0)) /\ Below w.heap.size w w' := by
 go_enter Tryz.func114, Tryz.ntmps114
 go_wp2
 go_ret
 exact ⟨_, rfl, block_new w _, up1 w _⟩
theorem mkpair_any (p q : Option Addr) (w : World) : Calls Tryz.prog 116 #[.pointer p, .pointer q] w fun e w' => ∃ g, e = .returned (.pointer (some ⟨g, 0, none⟩)) /\ w'.heap[g]? = some (.cells #[.int .u8 112, .string (St []), .pointer p, .pointer q] 88 (0, 0)) /\ Below w.heap.size w w' := by
 go_enter Tryz.func116, Tryz.ntmps116
 go_wp2
 go_ret
 exact ⟨_, rfl, block_new w _, up1 w _⟩
end Go.Proofs.YtpokompplapkhaaGreatDoor
namespace Go.Proofs.YtpokompplapkhaaGreatDoor
set_option maxHeartbeats 1000000
open Go.RowKit
set_option linter.unusedVariables false
set_option linter.unusedSimpArgs false
theorem isOf_bd0 (m : Int) (v : V) (a : Ty) (env : List Ty) : v.isOf m (.loop a :: env) (.bound 0) = v.isOf m env (.loop a) := by
 cases v <;> rfl
theorem isOf_bdS (m : Int) (v : V) (T : Ty) (env : List Ty) (k : Nat) : v.isOf m (T :: env) (.bound (k + 1)) = v.isOf m env (.bound k) := by
 cases v <;> rfl
theorem hole_isOf (m : Int) : ∀ (n : Nat) (t : Ty) (k : Nat) (env : List Ty) (v : V), v.isOf m env t = true -> ∀ h ∈ holesV n t (.bd k) v, h.2.isOf m env (.bound k) = true := by
 intro n
 induction n with
 | zero => intro t k env v _ h hm; cases hm
 | succ n ih =>
  intro t k env v hv h hm
  cases t with
  | zero => simp [holesV, Tg.at] at hm
  | one => simp [holesV, Tg.at] at hm
  | name s => simp [holesV, Tg.at] at hm
  | bound j =>
   rw [holesV_bound] at hm
   split at hm
   · rename_i hj
     rw [List.mem_singleton] at hm
     subst hm
     have : j = k := by simpa [Tg.at] using hj
     rw [<- this]
     exact hv
   · cases hm
  | sum a b =>
   simp only [holesV] at hm
   split at hm
   · obtain ⟨q, hq, rfl⟩ := List.mem_map.1 hm
     exact ih a k env _ hv q hq
   · obtain ⟨q, hq, rfl⟩ := List.mem_map.1 hm
     exact ih b k env _ hv q hq
   · cases hm
  | prod a b =>
   simp only [holesV] at hm
   split at hm
   · simp only [V.isOf, Bool.and_eq_true] at hv
     rcases List.mem_append.1 hm with hm | hm
     · obtain ⟨q, hq, rfl⟩ := List.mem_map.1 hm
       exact ih a k env _ hv.1 q hq
     · obtain ⟨q, hq, rfl⟩ := List.mem_map.1 hm
       exact ih b k env _ hv.2 q hq
   · cases hm
  | loop a =>
   simp only [holesV, Tg.up] at hm
   split at hm
   · rename_i x
     have hv1 : x.isOf m (.loop a :: env) a = true := hv
     rcases List.mem_append.1 hm with hm | hm
     · obtain ⟨q, hq, rfl⟩ := List.mem_map.1 hm
       have := ih a (k + 1) (.loop a :: env) x hv1 q hq
       rw [isOf_bdS] at this
       exact this
     · obtain ⟨p, hp, hm⟩ := List.mem_flatMap.1 hm
       obtain ⟨q, hq, rfl⟩ := List.mem_map.1 hm
       have h1 := ih a 0 (.loop a :: env) x hv1 p hp
       rw [isOf_bd0] at h1
       exact ih (.loop a) k env p.2 h1 q hq
   · cases hm
def hol (t : Ty) (g : Tg) (v : V) : List (V × V) := holesV v.nodes t g v
theorem hol_eq {n : Nat} {t : Ty} {g : Tg} {v : V} (h : v.nodes <= n) : holesV n t g v = hol t g v := holesV_more (Nat.le_refl _) h
theorem hol_l (a b : Ty) (g : Tg) (v : V) : hol (.sum a b) g (.l v) = (hol a g v).map fun h => (V.l h.1, h.2) := by
 unfold hol; simp only [V.nodes]; rw [Nat.add_comm, holesV]
theorem hol_r (a b : Ty) (g : Tg) (v : V) : hol (.sum a b) g (.r v) = (hol b g v).map fun h => (V.r h.1, h.2) := by
 unfold hol; simp only [V.nodes]; rw [Nat.add_comm, holesV]
theorem hol_p (a b : Ty) (g : Tg) (v w : V) : hol (.prod a b) g (.p v w) = ((hol a g v).map fun h => (V.l (.p h.1 w), h.2)) ++ (hol b g w).map fun h => (V.r (.p v h.1), h.2) := by
 have : (V.p v w).nodes = v.nodes + w.nodes + 1 := by simp only [V.nodes]; omega
 show holesV (V.p v w).nodes _ _ _ = _
 rw [this, holesV]
 show List.map _ _ ++ List.map _ _ = _
 rw [hol_eq (by omega), hol_eq (by omega)]
theorem hol_f (a : Ty) (g : Tg) (v : V) : hol (.loop a) g (.f v) = ((hol a g.up v).map fun h => (V.f (.l h.1), h.2)) ++ (hol a (.bd 0) v).flatMap fun k => (hol (.loop a) g k.2).map fun h => (V.f (.r (.p k.1 h.1)), h.2) := by
 have : (V.f v).nodes = v.nodes + 1 := by simp only [V.nodes]; omega
 show holesV (V.f v).nodes _ _ _ = _
 rw [this, holesV]
 show List.map _ _ ++ _ = _
 rw [hol_eq (Nat.le_refl _), hol_eq (Nat.le_refl _)]
 congr 1
 rw [List.flatMap_def, List.flatMap_def]
 congr 1
 refine List.map_congr_left fun q hq => ?_
 rw [hol_eq (hole_size v.nodes a (.bd 0) v q hq)]
theorem hol_at {t : Ty} {g : Tg} (h : g.at t = true) (v : V) : hol t g v = [(.u, v)] := by
 have hp := V.pos v
 unfold hol
 obtain ⟨n, hn⟩ : ∃ n, v.nodes = n + 1 := ⟨v.nodes - 1, by omega⟩
 rw [hn]
 cases t <;> cases g <;> first | cases h; done | (simp only [holesV]; rw [if_pos h])
theorem hol_no {t : Ty} {g : Tg} (h : g.at t = false) (h1 : ∀ a b, t ≠ .sum a b) (h2 : ∀ a b, t ≠ .prod a b) (h3 : ∀ a, t ≠ .loop a) (v : V) : hol t g v = [] := by
 have hp := V.pos v
 unfold hol
 obtain ⟨n, hn⟩ : ∃ n, v.nodes = n + 1 := ⟨v.nodes - 1, by omega⟩
 rw [hn]
 cases t <;> first
  | exact absurd rfl (h1 _ _)
  | exact absurd rfl (h2 _ _)
  | exact absurd rfl (h3 _)
  | (simp only [holesV]; rw [if_neg (by rw [h]; simp)])
theorem hol_len (t : Ty) (g : Tg) (v : V) : (hol t g v).length <= v.nodes := holes_len _ _ _ _
theorem hol_size {t : Ty} {g : Tg} {v : V} {h : V × V} (hm : h ∈ hol t g v) : h.2.nodes <= v.nodes := hole_size _ _ _ _ h hm
theorem hol_isOf {m : Int} {t : Ty} {k : Nat} {env : List Ty} {v : V} (hv : v.isOf m env t = true) {h : V × V} (hm : h ∈ hol t (.bd k) v) : h.2.isOf m env (.bound k) = true := hole_isOf m _ _ _ _ _ hv h hm
theorem hol_ok {t : Ty} {g : Tg} {v : V} (hv : v.ok) {h : V × V} (hm : h ∈ hol t g v) : h.1.ok /\ h.2.ok := hole_ok _ _ _ _ hv h hm
theorem hol_ctx {t : Ty} {g : Tg} {v : V} {h : V × V} (hm : h ∈ hol t g v) : h.1.nodes + 4 * h.2.nodes <= 4 * v.nodes + 1 := hole_ctx _ _ _ _ h hm
def HL (w : World) : List (V × V) -> List Value -> Prop
 | [], us => us = []
 | h :: hs, us => ∃ p q us', us = .pointer p :: .pointer q :: us' /\ VAt w h.1 p /\ VAt w h.2 q /\ HL w hs us'
theorem HL.keep {w w1 : World} (hk : Keeps 88 w w1) : ∀ {hs : List (V × V)} {us : List Value}, HL w hs us -> HL w1 hs us
 | [], _, h => h
 | _ :: _, _, ⟨p, q, us', h1, h2, h3, h4⟩ => ⟨p, q, us', h1, h2.keep hk, h3.keep hk, HL.keep hk h4⟩
theorem HL.app {w : World} : ∀ {hs hs2 : List (V × V)} {us us2 : List Value}, HL w hs us -> HL w hs2 us2 -> HL w (hs ++ hs2) (us ++ us2)
 | [], _, _, _, h, h2 => by
  have h : _ = [] := h
  subst h
  exact h2
 | _ :: _, _, _, _, ⟨p, q, us', h1, h2, h3, h4⟩, k => ⟨p, q, us' ++ _, by rw [h1]; rfl, h2, h3, HL.app h4 k⟩
theorem HL.len {w : World} : ∀ {hs : List (V × V)} {us : List Value}, HL w hs us -> us.length = hs.length * 2
 | [], _, h => by
  have h : _ = [] := h
  subst h
  rfl
 | _ :: _, _, ⟨p, q, us', h1, h2, h3, h4⟩ => by
  have := HL.len h4
  rw [h1]
  simp only [List.length_cons]
  omega
theorem HL.get {w : World} : ∀ {hs : List (V × V)} {us : List Value}, HL w hs us -> ∀ (i : Nat) (h : V × V), hs[i]? = some h -> ∃ p q, us[2 * i]? = some (.pointer p) /\ us[2 * i + 1]? = some (.pointer q) /\ VAt w h.1 p /\ VAt w h.2 q
 | [], _, _, i, h, hi => by simp at hi
 | _ :: _, _, ⟨p, q, us', h1, h2, h3, h4⟩, 0, h, hi => by
  simp only [List.getElem?_cons_zero, Option.some.injEq] at hi
  subst hi
  exact ⟨p, q, by rw [h1]; rfl, by rw [h1]; rfl, h2, h3⟩
 | _ :: _, _, ⟨p, q, us', h1, h2, h3, h4⟩, i + 1, h, hi => by
  obtain ⟨p', q', e1, e2, e3⟩ := HL.get h4 i h (by simpa using hi)
  refine ⟨p', q', ?_, ?_, e3⟩
  · rw [h1, show 2 * (i + 1) = 2 * i + 1 + 1 by omega]; simpa using e1
  · rw [h1, show 2 * (i + 1) + 1 = 2 * i + 1 + 1 + 1 by omega]; simpa using e2
structure Ot (b g : Nat) (w w' : World) : Prop where
 size : w.heap.size <= w'.heap.size
 blk : ∀ k, k < w.heap.size -> k ≠ b -> k ≠ g -> w'.heap[k]? = w.heap[k]?
theorem Ot.refl (b g : Nat) (w : World) : Ot b g w w := ⟨Nat.le_refl _, fun _ _ _ _ => rfl⟩
theorem Ot.up {b g : Nat} {w w' : World} (h : Below w.heap.size w w') : Ot b g w w' := ⟨h.size, fun k hk _ _ => h.block k hk⟩
theorem Ot.trans {b g g1 : Nat} {w w1 w2 : World} (h : Ot b g w w1) (hg : g1 = g \/ w.heap.size <= g1) (k : Ot b g1 w1 w2) : Ot b g w w2 :=
 ⟨Nat.le_trans h.size k.size, fun j hj h1 h2 => (k.blk j (Nat.lt_of_lt_of_le hj h.size) h1 (by omega)).trans (h.blk j hj h1 h2)⟩
theorem Ot.cells {b g : Nat} {w w' : World} (h : Ot b g w w') {A : Option Addr} {us : List Value} (hr : RCells w A us) (hne : ∀ k o, A = some ⟨k, o, none⟩ -> k ≠ b /\ k ≠ g) : RCells w' A us := by
 rcases hr with hr | ⟨k, o, rfl, hr⟩
 · exact .inl hr
 · refine .inr ⟨k, o, rfl, fun j u hu => ?_⟩
   have h1 := hr j u hu
   obtain ⟨n1, n2⟩ := hne k o rfl
   have hk : k < w.heap.size := by
    by_cases hk : k < w.heap.size
    · exact hk
    · have : w.heap[k]? = none := Array.getElem?_eq_none (by omega)
      simp [World.cell?, this] at h1
   have := h.blk k hk n1 n2
   simp only [World.cell?] at h1 ⊢
   rw [this]
   exact h1
def HBx (w0 : World) (b g c : Nat) (hs : List (V × V)) (w : World) : Prop :=
 Below w0.heap.size w0 w /\ w0.heap.size <= b /\ w.heap[b]? = some (.cells #[.slice (some ⟨g, 0, none⟩) hs.length c] 67 (0, 0)) /\ ∃ us, w.ownsRow w0.heap.size 134 2 (.slice (some ⟨g, 0, none⟩) hs.length c) hs.length us /\ HL w hs us
theorem HBx.up {w0 w w' : World} {b g c : Nat} {hs : List (V × V)} (h : HBx w0 b g c hs w) (hb : Below w.heap.size w w') : HBx w0 b g c hs w' := by
 obtain ⟨h1, h2, h3, us, h4, h5⟩ := h
 exact ⟨up_trans h1 hb, h2, block_up hb h3, us, own_up h4 hb, h5.keep (.up hb)⟩
theorem HBx.row {w0 w : World} {b g c : Nat} {hs : List (V × V)} (h : HBx w0 b g c hs w) : (∃ cur, w.heap[g]? = some (.cells cur 134 (0, 0))) /\ g ≠ b /\ w0.heap.size <= g := by
 obtain ⟨h1, h2, h3, us, h4, h5⟩ := h
 have hg := (World.ownsRow.lt h4 g rfl).1
 rcases h4.2 with ⟨e1, _⟩ | ⟨g', c', cur, e1, _, e2, _⟩
 · cases e1
 · cases e1
   refine ⟨⟨cur, e2⟩, ?_, hg⟩
   rintro rfl
   rw [h3] at e2
   simp at e2
theorem HBx.keeps {w0 w w' : World} {b g c : Nat} {hs : List (V × V)} (h : HBx w0 b g c hs w) (ho : Ot b g w w') {e : TypeId} (h1 : e ≠ 134) (h2 : e ≠ 67) : Keeps e w w' := fun k cs fr hk => by
 obtain ⟨⟨cur, e2⟩, _, _⟩ := h.row
 rw [ho.blk k (lt_of_block hk) ?_ ?_]
 · exact hk
 · rintro rfl
   rw [h.2.2.1] at hk
   injection hk with hk
   injection hk with _ he _
   exact h2 he.symm
 · rintro rfl
   rw [e2] at hk
   injection hk with hk
   injection hk with _ he _
   exact h1 he.symm
theorem HBx.kp {w0 w w' : World} {b g c : Nat} {hs : List (V × V)} (h : HBx w0 b g c hs w) (ho : Ot b g w w') : Kp w w' :=
 ⟨h.keeps ho (by decide) (by decide), h.keeps ho (by decide) (by decide), h.keeps ho (by decide) (by decide), h.keeps ho (by decide) (by decide), h.keeps ho (by decide) (by decide)⟩
theorem HBx.new (w0 w : World) (hb : Below w0.heap.size w0 w) : HBx w0 (w.heap.size + 1) w.heap.size 0 [] ((w.alloc (.cells #[] 134)).alloc (.cells #[.slice (some ⟨w.heap.size, 0, none⟩) 0 0] 67)) :=
 ⟨up_alloc (up_alloc hb _) _, by have := hb.size; omega, new2 w _ _, [], own_up (own_nils w _ 2 hb.size (by decide) _) (up1 _ _), rfl⟩
theorem HBx.put {w0 w w1 w2 : World} {b g c : Nat} {hs : List (V × V)} (h : HBx w0 b g c hs w) (hb : Below w.heap.size w w1) {g2 c2 : Nat} {p q : Option Addr} {x : V × V} {us : List Value} (hl : HL w hs us) (hg : w1.grownBy w2 (some g)) (hat : g2 = g \/ w1.heap.size <= g2)
 (ho : w2.ownsRow w0.heap.size 134 2 (.slice (some ⟨g2, 0, none⟩) (hs.length + 1) c2) (hs.length + 1) (us ++ [.pointer p, .pointer q])) (hx : VAt w1 x.1 p) (hy : VAt w1 x.2 q) :
 HBx w0 b g2 c2 (hs ++ [x]) (w2.setCell ⟨b, 0, none⟩ (.slice (some ⟨g2, 0, none⟩) (hs.length + 1) c2)) /\ Ot b g w (w2.setCell ⟨b, 0, none⟩ (.slice (some ⟨g2, 0, none⟩) (hs.length + 1) c2)) := by
 obtain ⟨⟨cur, e2⟩, hgb, hg0⟩ := h.row
 obtain ⟨h1, h2, h3, us', h4, h5⟩ := id h
 have hb1 := block_up hb h3
 have hlt1 := lt_of_block hb1
 have hb2 : w2.heap[b]? = some (.cells #[.slice (some ⟨g, 0, none⟩) hs.length c] 67 (0, 0)) := (hg.block b hlt1 (by simp; exact fun h => hgb h.symm)).trans hb1
 have hg2 : g2 ≠ b := by omega
 have hbel : Below w0.heap.size w0 w2 := (up_trans h1 hb).grown hg (up_trans h1 hb).size (fun k hk => by cases hk; exact hg0)
 have kv : Keeps 88 w1 (w2.setCell ⟨b, 0, none⟩ (.slice (some ⟨g2, 0, none⟩) (hs.length + 1) c2)) := (Keeps.grown (own_up h4 hb) hg (by decide)).trans (Keeps.set_ (a := ⟨b, 0, none⟩) hb2 (by decide) _)
 refine ⟨⟨set0 hbel h2, h2, ?_, us ++ [.pointer p, .pointer q], ?_, ?_⟩, ⟨?_, fun k hk k1 k2 => ?_⟩⟩
 · have := one_setCell hb2 (u := .slice (some ⟨g2, 0, none⟩) (hs.length + 1) c2)
   simpa using this
 · have := ownsRow_setCell_other ho (by simp [Value.ownBlock]; exact hg2) (a := ⟨b, 0, none⟩) (.slice (some ⟨g2, 0, none⟩) (hs.length + 1) c2)
   simpa using this
 · exact (hl.keep ((Keeps.up hb).trans kv)).app ⟨p, q, [], rfl, hx.keep kv, hy.keep kv, rfl⟩
 · have := hb.size
   have := hg.size
   simp [World.setCell]
   omega
 · rw [Below.heap_setCell _ _ _ _ (by exact k1), hg.block k (Nat.lt_of_lt_of_le hk hb.size) (by simpa using k2), hb.block k hk]
def HPost (w : World) (hs : List (V × V)) (e : Ending) (w' : World) : Prop :=
 Below w.heap.size w w' /\ ∃ g c us, e = .returned (.slice (some ⟨g, 0, none⟩) hs.length c) /\ w.heap.size <= g /\ g < w'.heap.size /\ RCells w' (some ⟨g, 0, none⟩) us /\ HL w' hs us
theorem HBx.post {w0 w : World} {b g c : Nat} {hs : List (V × V)} (h : HBx w0 b g c hs w) : HPost w0 hs (.returned (.slice (some ⟨g, 0, none⟩) hs.length c)) w := by
 obtain ⟨⟨cur, e2⟩, hgb, hg0⟩ := h.row
 obtain ⟨h1, h2, h3, us, h4, h5⟩ := id h
 refine ⟨h1, g, c, us, rfl, hg0, lt_of_block e2, .inr ⟨g, 0, rfl, fun j u hu => ?_⟩, h5⟩
 have hj : j < hs.length * 2 := by
  have := (List.getElem?_eq_some_iff.1 hu).1
  rw [h5.len] at this
  exact this
 rw [Nat.zero_add, World.ownsRow.cellAt h4 j hj]
 exact hu
def TgV (env : List (Ty × Nat)) : Tg -> Value -> Prop
 | .nm x, v => v = .agg #[.string (St x), .pointer none]
 | .bd k, v => ∃ e, env[k]? = some e /\ v = .agg #[.string (St []), .pointer (some ⟨e.2, 0, none⟩)]
theorem TgV.up {env : List (Ty × Nat)} {g : Tg} {v : Value} (h : TgV env g v) (e : Ty × Nat) : TgV (e :: env) g.up v := by
 cases g with
 | nm x => exact h
 | bd k => obtain ⟨e', h1, h2⟩ := h; exact ⟨e', by simpa using h1, h2⟩
end Go.Proofs.YtpokompplapkhaaGreatDoor

