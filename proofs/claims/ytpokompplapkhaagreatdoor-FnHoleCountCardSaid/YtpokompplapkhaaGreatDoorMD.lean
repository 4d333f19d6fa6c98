/- Types with names, pure: out of what is read, and into de Bruijn's form. The reference's names. The reference's types: l1Is, l1Atoms. The reference's types: l1Atoms, l1Type, TypeValid, TypeSize. Texts of trees, in plain Lean: what is read is what is written. -/
import Derived.Test.YtpokompplapkhaaGreatDoorMB
namespace Go.Proofs.YtpokompplapkhaaGreatDoor
set_option maxHeartbeats 4000000
set_option maxRecDepth 100000
open Go.RowKit
set_option linter.unusedVariables false
set_option linter.unusedSimpArgs false
def Tr.atom : Tr -> List UInt8
 | .mk s _ => s
inductive NT where
 | zero | one
 | name (s : List UInt8)
 | sum (a b : NT)
 | prod (a b : NT)
 | loop (s : List UInt8) (a : NT)
 deriving DecidableEq
def NT.toTr : NT -> Tr
 | .zero => .mk [48] []
 | .one => .mk [49] []
 | .name s => .mk s []
 | .sum a b => .mk [] [.mk [43] [], a.toTr, b.toTr]
 | .prod a b => .mk [] [.mk [42] [], a.toTr, b.toTr]
 | .loop s a => .mk [] [.mk [114, 101, 99] [], .mk s [], a.toTr]
def NT.atoms : NT -> Nat
 | .zero => 1
 | .one => 1
 | .name _ => 1
 | .sum a b => 1 + a.atoms + b.atoms
 | .prod a b => 1 + a.atoms + b.atoms
 | .loop _ a => 2 + a.atoms
def NT.ok : NT -> Prop
 | .zero => True
 | .one => True
 | .name s => paramB s = true \/ loopB s = true
 | .sum a b => a.ok /\ b.ok
 | .prod a b => a.ok /\ b.ok
 | .loop s a => loopB s = true /\ a.ok
def tyAtom (s : List UInt8) (rest : Option NT) : Option NT :=
 if s = [48] then some .zero else if s = [49] then some .one else if paramB s = true then some (.name s) else if loopB s = true then some (.name s) else rest
def tyTwo (f : NT -> NT -> NT) (x y : Option NT) : Option NT := match x, y with
 | some x, some y => some (f x y)
 | _, _ => none
def tyThree (h n : List UInt8) (x y : Option NT) : Option NT :=
 if h = [43] then tyTwo .sum x y else if h = [42] then tyTwo .prod x y else if h = [114, 101, 99] then (if loopB n = true then y.map (.loop n) else none) else none
def tyOf : Tr -> Option NT
 | .mk s [.mk h _, a, b] => tyAtom s (tyThree h a.atom (tyOf a) (tyOf b))
 | .mk s _ => tyAtom s none
theorem tyTwo_some {f : NT -> NT -> NT} {x y : Option NT} {n : NT} (h : tyTwo f x y = some n) : ∃ a b, x = some a /\ y = some b /\ n = f a b := by
 unfold tyTwo at h
 split at h
 · rename_i a b
   simp at h
   exact ⟨a, b, rfl, rfl, h.symm⟩
 · cases h
theorem tyOf_zero (ps : List Tr) : tyOf (.mk [48] ps) = some .zero := by
 rcases ps with _ | ⟨⟨h, q⟩, _ | ⟨a, _ | ⟨b, _ | ⟨c, r⟩⟩⟩⟩ <;> simp [tyOf, tyAtom]
theorem tyOf_one (ps : List Tr) : tyOf (.mk [49] ps) = some .one := by
 rcases ps with _ | ⟨⟨h, q⟩, _ | ⟨a, _ | ⟨b, _ | ⟨c, r⟩⟩⟩⟩ <;> simp [tyOf, tyAtom]
theorem name_ne {s : List UInt8} (h : paramB s = true \/ loopB s = true) : s ≠ [48] /\ s ≠ [49] := by
 constructor <;> rintro rfl <;> revert h <;> decide
theorem tyOf_name {s : List UInt8} (h : paramB s = true \/ loopB s = true) (ps : List Tr) : tyOf (.mk s ps) = some (.name s) := by
 obtain ⟨h1, h2⟩ := name_ne h
 have : tyAtom s = fun _ => some (.name s) := by
  funext rest
  unfold tyAtom
  rw [if_neg h1, if_neg h2]
  rcases h with h | h
  · rw [if_pos h]
  · by_cases hp : paramB s = true
    · rw [if_pos hp]
    · rw [if_neg hp, if_pos h]
 rcases ps with _ | ⟨⟨h, q⟩, _ | ⟨a, _ | ⟨b, _ | ⟨c, r⟩⟩⟩⟩ <;> simp [tyOf, this]
theorem tyAtom_no {s : List UInt8} (h1 : s ≠ [48]) (h2 : s ≠ [49]) (h3 : paramB s = false) (h4 : loopB s = false) (rest : Option NT) : tyAtom s rest = rest := by
 unfold tyAtom
 rw [if_neg h1, if_neg h2, if_neg (by rw [h3]; simp), if_neg (by rw [h4]; simp)]
theorem tyOf_three {s : List UInt8} (h1 : s ≠ [48]) (h2 : s ≠ [49]) (h3 : paramB s = false) (h4 : loopB s = false) (h : List UInt8) (q : List Tr) (a b : Tr) :
 tyOf (.mk s [.mk h q, a, b]) = tyThree h a.atom (tyOf a) (tyOf b) := by
 rw [tyOf, tyAtom_no h1 h2 h3 h4]
theorem tyOf_other {s : List UInt8} (h1 : s ≠ [48]) (h2 : s ≠ [49]) (h3 : paramB s = false) (h4 : loopB s = false) (ps : List Tr) (hp : ps.length ≠ 3) :
 tyOf (.mk s ps) = none := by
 rcases ps with _ | ⟨⟨h, q⟩, _ | ⟨a, _ | ⟨b, _ | ⟨c, r⟩⟩⟩⟩ 
 · exact tyAtom_no h1 h2 h3 h4 none
 · exact tyAtom_no h1 h2 h3 h4 none
 · exact tyAtom_no h1 h2 h3 h4 none
 · exact absurd rfl hp
 · exact tyAtom_no h1 h2 h3 h4 none
theorem nil_no : ([] : List UInt8) ≠ [48] /\ ([] : List UInt8) ≠ [49] /\ paramB [] = false /\ loopB [] = false := ⟨by simp, by simp, rfl, rfl⟩
theorem tyAtom_some {s : List UInt8} {rest : Option NT} {n : NT} (h : tyAtom s rest = some n) (hr : rest = none) : (s = [48] /\ n = .zero) \/ (s = [49] /\ n = .one) \/ ((paramB s = true \/ loopB s = true) /\ n = .name s) := by
 unfold tyAtom at h
 subst hr
 split at h
 · simp at h; exact .inl ⟨by assumption, h.symm⟩
 · split at h
   · simp at h; exact .inr (.inl ⟨by assumption, h.symm⟩)
   · split at h
     · simp at h; exact .inr (.inr ⟨.inl (by assumption), h.symm⟩)
     · split at h
       · simp at h; exact .inr (.inr ⟨.inr (by assumption), h.symm⟩)
       · cases h
theorem tyOf_toTr : ∀ (t : Tr) (n : NT), OkT t -> tyOf t = some n -> t = n.toTr /\ n.ok
 | .mk s ps, n, hok, hv => by
  by_cases hs : s = []
  · subst hs
    obtain ⟨h1, h2, h3, h4⟩ := nil_no
    rcases ps with _ | ⟨⟨h, q⟩, _ | ⟨a, _ | ⟨b, _ | ⟨c, r⟩⟩⟩⟩
    · rw [tyOf_other h1 h2 h3 h4 _ (by simp)] at hv; cases hv
    · rw [tyOf_other h1 h2 h3 h4 _ (by simp)] at hv; cases hv
    · rw [tyOf_other h1 h2 h3 h4 _ (by simp)] at hv; cases hv
    · rw [tyOf_three h1 h2 h3 h4] at hv
      obtain ⟨_, hh, ha, hb, _⟩ := hok
      have hq : h ≠ [] -> q = [] := hh.1
      unfold tyThree at hv
      split at hv
      · rename_i he
        obtain ⟨x, y, hx, hy, rfl⟩ := tyTwo_some hv
        obtain ⟨e1, o1⟩ := tyOf_toTr a x ha hx
        obtain ⟨e2, o2⟩ := tyOf_toTr b y hb hy
        exact ⟨by rw [NT.toTr, <- e1, <- e2, hq (by rw [he]; simp), he], o1, o2⟩
      · split at hv
        · rename_i he
          obtain ⟨x, y, hx, hy, rfl⟩ := tyTwo_some hv
          obtain ⟨e1, o1⟩ := tyOf_toTr a x ha hx
          obtain ⟨e2, o2⟩ := tyOf_toTr b y hb hy
          exact ⟨by rw [NT.toTr, <- e1, <- e2, hq (by rw [he]; simp), he], o1, o2⟩
        · split at hv
          · rename_i he
            split at hv
            · rename_i hl
              obtain ⟨n1, q1⟩ := a
              cases hy : tyOf b with
              | none => rw [hy] at hv; simp at hv
              | some y =>
               rw [hy] at hv
               simp [Tr.atom] at hv hl
               subst hv
               obtain ⟨e2, o2⟩ := tyOf_toTr b y hb hy
               have hq1 : q1 = [] := ha.1 (by rintro rfl; revert hl; decide)
               exact ⟨by rw [NT.toTr, <- e2, hq (by rw [he]; simp), he, hq1], hl, o2⟩
            · cases hv
          · cases hv
    · rw [tyOf_other h1 h2 h3 h4 _ (by simp)] at hv; cases hv
  · obtain rfl : ps = [] := hok.1 hs
    have hv' : tyAtom s none = some n := hv
    rcases tyAtom_some hv' rfl with ⟨rfl, rfl⟩ | ⟨rfl, rfl⟩ | ⟨h, rfl⟩
    · exact ⟨rfl, trivial⟩
    · exact ⟨rfl, trivial⟩
    · exact ⟨rfl, h⟩
def look (s : List UInt8) : List (List UInt8) -> Option Nat
 | [] => none
 | e :: r => if e = s then some 0 else (look s r).map (· + 1)
def NT.db : NT -> List (List UInt8) -> Ty
 | .zero, _ => .zero
 | .one, _ => .one
 | .name s, env => if paramB s = true then .name s else (match look s env with | some k => .bound k | none => .name s)
 | .sum a b, env => .sum (a.db env) (b.db env)
 | .prod a b, env => .prod (a.db env) (b.db env)
 | .loop s a, env => .loop (a.db (s :: env))
def Ty.atoms : Ty -> Nat
 | .sum a b => 1 + a.atoms + b.atoms
 | .prod a b => 1 + a.atoms + b.atoms
 | .loop a => 2 + a.atoms
 | _ => 1
theorem NT.db_atoms : ∀ (n : NT) (env : List (List UInt8)), (n.db env).atoms = n.atoms
 | .zero, _ => rfl
 | .one, _ => rfl
 | .name s, env => by
  simp only [NT.db, NT.atoms]
  split
  · rfl
  · split <;> rfl
 | .sum a b, env => by simp only [NT.db, Ty.atoms, NT.atoms, db_atoms a env, db_atoms b env]
 | .prod a b, env => by simp only [NT.db, Ty.atoms, NT.atoms, db_atoms a env, db_atoms b env]
 | .loop s a, env => by simp only [NT.db, Ty.atoms, NT.atoms, db_atoms a (s :: env)]
def rdTy (l : List UInt8) : Option NT := match rdText l with
 | none => none
 | some t => match tyOf t with
  | none => none
  | some n => if 400 < n.atoms then none else some n
end Go.Proofs.YtpokompplapkhaaGreatDoor
namespace Go.Proofs.YtpokompplapkhaaGreatDoor
set_option maxHeartbeats 4000000
set_option maxRecDepth 100000
open Go.RowKit
set_option linter.unusedVariables false
set_option linter.unusedSimpArgs false
def nameB (a b : Nat) : List UInt8 -> Bool
 | c :: r => (decide (a <= c.toNat) && decide (c.toNat <= b)) && decide (r.length <= 2) && r.all digitB
 | [] => false
theorem nameB_param (l : List UInt8) : nameB 120 122 l = paramB l := by
 cases l with
 | nil => rfl
 | cons c r =>
  simp only [nameB, paramB, namedB]
  congr 2
  rw [Bool.eq_iff_iff]
  simp only [Bool.and_eq_true, decide_eq_true_eq, List.contains_eq_mem, List.mem_cons, List.mem_nil_iff, or_false]
  constructor
  · intro ⟨h1, h2⟩
    have : c.toNat = 120 \/ c.toNat = 121 \/ c.toNat = 122 := by omega
    rcases this with h | h | h
    · exact .inl (UInt8.toNat_inj.1 h)
    · exact .inr (.inl (UInt8.toNat_inj.1 h))
    · exact .inr (.inr (UInt8.toNat_inj.1 h))
  · rintro (rfl | rfl | rfl) <;> decide
theorem nameB_loop (l : List UInt8) : nameB 116 116 l = loopB l := by
 cases l with
 | nil => rfl
 | cons c r =>
  simp only [nameB, loopB, namedB]
  congr 2
  rw [Bool.eq_iff_iff]
  simp only [Bool.and_eq_true, decide_eq_true_eq, List.contains_eq_mem, List.mem_cons, List.mem_nil_iff, or_false]
  constructor
  · intro ⟨h1, h2⟩
    exact UInt8.toNat_inj.1 (by omega : c.toNat = 116)
  · rintro rfl; decide
theorem l1Name_any (s : ByteArray) (a b : Nat) (w : World) :
 Calls Tryz.prog 124 #[.string s, .int .u8 a, .int .u8 b] w fun e w' => e = .returned (.bool (nameB a b s.data.toList)) /\ w = w' := by
 have hsz := size_list s
 have hc := l6In_any (s.size : Int) 1 3
 cases hl : s.data.toList with
 | nil =>
  have h0 : s.size = 0 := by rw [<- hsz, hl]; rfl
  have h1 : (decide ((1 : Int) <= (s.size : Int)) && decide ((s.size : Int) <= 3)) = false := by rw [h0]; rfl
  rw [h1] at hc
  clear h1 hsz h0 hl
  go_enter Tryz.func124, Tryz.ntmps124
  go_wp2_with (go_at_call 80; refine (hc _).mono ?_; rintro e w' ⟨rfl, rfl⟩)
  go_ret
  exact ⟨rfl, rfl⟩
 | cons c r =>
  obtain ⟨_, h2, h3, h4, _⟩ := cons_bytes hl
  replace h4 := h4 h2
  by_cases hlen : r.length <= 2
  · have h1 : (decide ((1 : Int) <= (s.size : Int)) && decide ((s.size : Int) <= 3)) = true := by
     rw [Bool.and_eq_true, decide_eq_true_eq, decide_eq_true_eq]; omega
    rw [h1] at hc
    have hget : ∀ k (hk : k < r.length) (h : k + 1 < s.size), s[k + 1] = r[k] := fun k hk h => by
     have : s.data.toList[k + 1]'(by rw [hl]; simp; omega) = r[k] := by simp [hl]
     exact this
    have hsr : s.size = r.length + 1 := by rw [<- hsz, hl]; rfl
    clear h1
    by_cases hA : a <= c.toNat
    · by_cases hB : c.toNat <= b
      · have hv : nameB a b (c :: r) = r.all digitB := by simp [nameB, hA, hB, hlen]
        rw [hv]
        generalize hbb : r.all digitB = bb
        have HBB := Lib.hid hbb
        have HGET := Lib.hid hget
        have HSR := Lib.hid hsr
        have k1 : decide (c.toNat < a) = false := decide_eq_false (by omega)
        have k2 : decide (b < c.toNat) = false := decide_eq_false (by omega)
        clear hv hbb hget hsr hA hB hl hsz h3
        go_enter Tryz.func124, Tryz.ntmps124
        go_wp2_with (go_at_call 80; refine (hc _).mono ?_; rintro e w' ⟨rfl, rfl⟩)
        go_loop [7] (fun i => ∃ k : Nat, k <= r.length /\ i = .int .i64 ((k : Int) + 1) /\ Hid ((r.take k).all digitB = true)) (fun i => r.length + 1 - (intOf i).toNat)
        case atStart => exact ⟨0, Nat.zero_le _, rfl, by simp [Hid]⟩
        case round =>
         obtain ⟨k, hk, rfl, HD⟩ := hrel
         have hs3 := HSR.out
         clear k1 k2
         by_cases hlt : k < r.length
         · have hlts : k + 1 < s.size := by omega
           have hg := HGET.out k hlt hlts
           cases hd : digitB r[k] with
           | true =>
            have hdb := digit_bounds hd
            have HT : Hid (r.take (k + 1) = r.take k ++ [r[k]]) := by
             show r.take (k + 1) = r.take k ++ [r[k]]
             rw [List.take_succ_eq_append_getElem hlt]
            have HDD := Lib.hid hd
            generalize hrk : r[k] = y at *
            have HRK := Lib.hid hrk
            clear hd hs3 hrk
            obtain ⟨hdb1, hdb2⟩ := hdb
            go_wp2
            go_round
            case rel => exact ⟨k + 1, by omega, by go_num, by show (r.take (k + 1)).all digitB = true; rw [HT.out, List.all_append, HD.out]; simp [HDD.out]⟩
            case measure => simp [intOf]; omega
           | false =>
            have hbad : bb = false := by
             rw [<- HBB.out]
             cases ha : r.all digitB with
             | false => rfl
             | true =>
              have := List.all_eq_true.1 ha r[k] (List.getElem_mem hlt)
              rw [hd] at this
              cases this
            have hdb : (r[k].toNat : Int) < 48 \/ (57 : Int) < r[k].toNat := by
             have := mt (digitB_iff r[k]).2 (by rw [hd]; simp)
             omega
            subst hbad
            generalize hrk : r[k] = y at *
            have HRK := Lib.hid hrk
            clear hd hs3 hrk
            rcases hdb with hdb | hdb
            · go_wp2
              go_ret
              exact ⟨rfl, rfl⟩
            · have hdb2 : (48 : Int) <= y.toNat := by omega
              go_wp2
              go_ret
              exact ⟨rfl, rfl⟩
         · have hkr : k = r.length := by omega
           have hend : bb = true := by
            have h1 := HD.out
            rw [hkr, List.take_length] at h1
            rw [<- HBB.out, h1]
           subst hend
           have hge : ¬ ((k : Int) + 1 < (s.size : Int)) := by omega
           clear hkr hs3
           go_wp2
           go_ret
           exact ⟨rfl, rfl⟩
      · have hv : nameB a b (c :: r) = false := by simp [nameB, hB]
        rw [hv]
        have k1 : decide (c.toNat < a) = false := decide_eq_false (by omega)
        have k2 : decide (b < c.toNat) = true := decide_eq_true (by omega)
        clear hv hget hsr hA hB hl hsz h3
        go_enter Tryz.func124, Tryz.ntmps124
        go_wp2_with (go_at_call 80; refine (hc _).mono ?_; rintro e w' ⟨rfl, rfl⟩)
        go_ret
        exact ⟨rfl, rfl⟩
    · have hv : nameB a b (c :: r) = false := by simp [nameB, hA]
      rw [hv]
      have k1 : decide (c.toNat < a) = true := decide_eq_true (by omega)
      clear hv hget hsr hA hl hsz h3
      go_enter Tryz.func124, Tryz.ntmps124
      go_wp2_with (go_at_call 80; refine (hc _).mono ?_; rintro e w' ⟨rfl, rfl⟩)
      go_ret
      exact ⟨rfl, rfl⟩
  · have hv : nameB a b (c :: r) = false := by simp [nameB, hlen]
    rw [hv]
    have hsr : s.size = r.length + 1 := by rw [<- hsz, hl]; rfl
    have h1 : (decide ((1 : Int) <= (s.size : Int)) && decide ((s.size : Int) <= 3)) = false := by
     rw [Bool.and_eq_false_iff]; right; exact decide_eq_false (by omega)
    rw [h1] at hc
    clear hv hsr hl hsz h1 h3 h4
    go_enter Tryz.func124, Tryz.ntmps124
    go_wp2_with (go_at_call 80; refine (hc _).mono ?_; rintro e w' ⟨rfl, rfl⟩)
    go_ret
    exact ⟨rfl, rfl⟩
theorem l1Param_any (s : ByteArray) (w : World) : Calls Tryz.prog 55 #[.string s] w fun e w' => e = .returned (.bool (paramB s.data.toList)) /\ w = w' := by
 have hc := fun w => l1Name_any s 120 122 w
 rw [nameB_param] at hc
 generalize paramB s.data.toList = b at *
 have hc' : ∀ w, Calls Tryz.prog 124 #[.string s, .int .u8 120, .int .u8 122] w fun e w' => e = .returned (.bool b) /\ w = w' := hc
 clear hc
 go_enter Tryz.func55, Tryz.ntmps55
 go_wp2_with (go_at_call 124; refine (hc' _).mono ?_; rintro e w' ⟨rfl, rfl⟩)
 go_ret
 exact ⟨rfl, rfl⟩
theorem l1Loop_any (s : ByteArray) (w : World) : Calls Tryz.prog 104 #[.string s] w fun e w' => e = .returned (.bool (loopB s.data.toList)) /\ w = w' := by
 have hc := fun w => l1Name_any s 116 116 w
 rw [nameB_loop] at hc
 generalize loopB s.data.toList = b at *
 have hc' : ∀ w, Calls Tryz.prog 124 #[.string s, .int .u8 116, .int .u8 116] w fun e w' => e = .returned (.bool b) /\ w = w' := hc
 clear hc
 go_enter Tryz.func104, Tryz.ntmps104
 go_wp2_with (go_at_call 124; refine (hc' _).mono ?_; rintro e w' ⟨rfl, rfl⟩)
 go_ret
 exact ⟨rfl, rfl⟩
end Go.Proofs.YtpokompplapkhaaGreatDoor
namespace Go.Proofs.YtpokompplapkhaaGreatDoor
set_option maxHeartbeats 4000000
set_option maxRecDepth 100000
open Go.RowKit
set_option linter.unusedVariables false
set_option linter.unusedSimpArgs false
theorem TRow.at3 {w : World} {ok : Nat -> Prop} {a : Tr} {ts : List Tr} {b o : Nat} (h : TRow w ok (a :: ts) (some ⟨b, o, none⟩)) :
 ∃ A n c, w.cell? ⟨b, o, none⟩ = some (.string (St a.atom)) /\ w.cell? ⟨b, o + 1, none⟩ = some (.slice A n c) /\ TAt w ok a (.agg #[.string (St a.atom), .slice A n c]) /\ TRow w ok ts (some ⟨b, o + 2, none⟩) := by
 obtain ⟨s, ps⟩ := a
 obtain ⟨A, c, h0, h1, hc, hr, ht⟩ := h.next
 exact ⟨A, _, c, h0, h1, ⟨A, c, rfl, hc, hr⟩, ht⟩
theorem l1Is_atom (s : List UInt8) (hs : s ≠ []) (v : Value) (w : World) {ok : Nat -> Prop} (hp : TAt w ok (.mk s []) v) :
 Calls Tryz.prog 155 #[v] w fun e w' => e = .returned (.bool (tyOf (.mk s [])).isSome) /\ Below w.heap.size w w' := by
 obtain ⟨A, c, rfl, _⟩ := hp.parts
 clear hp
 have k0 := St_ne hs
 by_cases h1 : s = [48]
 · subst h1
   rw [tyOf_zero]
   go_enter Tryz.func155, Tryz.ntmps155
   go_wp2
   go_ret
   exact ⟨rfl, up1 w _⟩
 by_cases h2 : s = [49]
 · subst h2
   rw [tyOf_one]
   go_enter Tryz.func155, Tryz.ntmps155
   go_wp2
   go_ret
   exact ⟨rfl, up1 w _⟩
 have k1 := St_ne h1
 have k2 := St_ne h2
 have HP : Hid (∀ w, Calls Tryz.prog 55 #[.string (St s)] w fun e w' => e = .returned (.bool (paramB s)) /\ w = w') := fun w => l1Param_any (St s) w
 have HL : Hid (∀ w, Calls Tryz.prog 104 #[.string (St s)] w fun e w' => e = .returned (.bool (loopB s)) /\ w = w') := fun w => l1Loop_any (St s) w
 have hr : (tyOf (.mk s [])).isSome = (paramB s || loopB s) := by
  cases h3 : paramB s with
  | true => rw [tyOf_name (.inl h3)]; rfl
  | false =>
   cases h4 : loopB s with
   | true => rw [tyOf_name (.inr h4)]; rfl
   | false => rw [tyOf_other h1 h2 h3 h4 _ (by simp)]; rfl
 rw [hr]
 clear hr h1 h2 hs
 generalize paramB s = x at *
 generalize loopB s = y at *
 cases x with
 | true =>
  go_enter Tryz.func155, Tryz.ntmps155
  go_wp2_with (go_at_call 55; refine (HP.out _).mono ?_; rintro e w' ⟨rfl, rfl⟩)
  go_ret
  exact ⟨rfl, up1 w _⟩
 | false =>
  go_enter Tryz.func155, Tryz.ntmps155
  go_wp2_with (first
   | (go_at_call 55; refine (HP.out _).mono ?_; rintro e w' ⟨rfl, rfl⟩)
   | (go_at_call 104; refine (HL.out _).mono ?_; rintro e w' ⟨rfl, rfl⟩))
  go_ret
  exact ⟨rfl, up1 w _⟩
theorem l1Is_no (ps : List Tr) (h3 : ps.length ≠ 3) (v : Value) (w : World) {ok : Nat -> Prop} (hp : TAt w ok (.mk [] ps) v) :
 Calls Tryz.prog 155 #[v] w fun e w' => e = .returned (.bool (tyOf (.mk [] ps)).isSome) /\ Below w.heap.size w w' := by
 obtain ⟨A, c, rfl, _⟩ := hp.parts
 obtain ⟨n1, n2, n3, n4⟩ := nil_no
 rw [tyOf_other n1 n2 n3 n4 ps h3]
 have k1 : ((ps.length : Int) != 3) = true := by rw [bne_iff_ne]; omega
 clear hp h3 n1 n2 n3 n4
 generalize ps.length = n at *
 go_enter Tryz.func155, Tryz.ntmps155
 go_wp2
 go_ret
 exact ⟨rfl, up1 w _⟩
theorem l1Is_three (h : List UInt8) (q : List Tr) (a b : Tr) (v : Value) (w : World) (hp : TAt w (fun _ => True) (.mk [] [.mk h q, a, b]) v)
 (iha : ∀ (v : Value) (w : World), TAt w (fun _ => True) a v -> Calls Tryz.prog 155 #[v] w fun e w' => e = .returned (.bool (tyOf a).isSome) /\ Below w.heap.size w w')
 (ihb : ∀ (v : Value) (w : World), TAt w (fun _ => True) b v -> Calls Tryz.prog 155 #[v] w fun e w' => e = .returned (.bool (tyOf b).isSome) /\ Below w.heap.size w w') :
 Calls Tryz.prog 155 #[v] w fun e w' => e = .returned (.bool (tyOf (.mk [] [.mk h q, a, b])).isSome) /\ Below w.heap.size w w' := by
 obtain ⟨n1, n2, n3, n4⟩ := nil_no
 rw [tyOf_three n1 n2 n3 n4]
 have hh : ∀ w1, Below w.heap.size w w1 -> Calls Tryz.prog 125 #[v] w1 fun e w' => e = .returned (.string (St h)) /\ Below w1.heap.size w1 w' := fun w1 (hb : Below w.heap.size w w1) => l1Head_any _ v w1 (hp.up hb)
 have HH := Lib.hid hh
 have IHA := Lib.hid iha
 have IHB := Lib.hid ihb
 obtain ⟨A, c, rfl, hr⟩ := hp.parts
 obtain ⟨bl, o, A', c', rfl, _, _, _, _, hr⟩ := hr.uncons
 obtain ⟨A2, n2, c2, d2, d3, ha, hr⟩ := hr.at3
 obtain ⟨A4, n4, c4, d4, d5, hb, _⟩ := hr.at3
 have HC : Hid (∀ w1, Below w.heap.size w w1 -> w1.cell? ⟨bl, o + 2, none⟩ = some (.string (St a.atom)) /\ w1.cell? ⟨bl, o + 3, none⟩ = some (.slice A2 n2 c2) /\ w1.cell? ⟨bl, o + 4, none⟩ = some (.string (St b.atom)) /\ w1.cell? ⟨bl, o + 5, none⟩ = some (.slice A4 n4 c4) /\
  Hid (TAt w1 (fun _ => True) a (.agg #[.string (St a.atom), .slice A2 n2 c2])) /\ Hid (TAt w1 (fun _ => True) b (.agg #[.string (St b.atom), .slice A4 n4 c4]))) := fun w1 hb' => ⟨cell_up hb' d2, cell_up hb' d3, cell_up hb' d4, cell_up hb' d5, ha.up hb', hb.up hb'⟩
 have HLP : Hid (∀ w, Calls Tryz.prog 104 #[.string (St a.atom)] w fun e w' => e = .returned (.bool (loopB a.atom)) /\ w = w') := fun w => l1Loop_any (St a.atom) w
 clear hp hr ha hb hh iha ihb d2 d3 d4 d5 n1 n3
 have hx : (tyThree h a.atom (tyOf a) (tyOf b)).isSome = (((h == [43]) || (h == [42])) && ((tyOf a).isSome && (tyOf b).isSome) || ((h == [114, 101, 99]) && (loopB a.atom && (tyOf b).isSome))) := by
  unfold tyThree
  by_cases h1 : h = [43]
  · rw [if_pos h1, h1]
    cases tyOf a <;> cases tyOf b <;> rfl
  · rw [if_neg h1, St_ne h1]
    by_cases h2 : h = [42]
    · rw [if_pos h2, h2]
      cases tyOf a <;> cases tyOf b <;> rfl
    · rw [if_neg h2, St_ne h2]
      by_cases h3 : h = [114, 101, 99]
      · rw [if_pos h3, h3]
        cases hl : loopB a.atom with
        | true => rw [if_pos rfl]; cases tyOf b <;> rfl
        | false => rw [if_neg (by simp)]; rfl
      · rw [if_neg h3, St_ne h3]; rfl
 rw [hx]
 clear hx
 generalize (tyOf a).isSome = y at *
 generalize (tyOf b).isSome = z at *
 generalize loopB a.atom = l at *
 generalize a.atom = an at *
 generalize b.atom = bn at *
 by_cases hcase : h = [43] \/ h = [42]
 · have hv : (((h == [43]) || (h == [42])) && (y && z) || ((h == [114, 101, 99]) && (l && z))) = (y && z) := by
    rcases hcase with rfl | rfl <;> simp
   rw [hv]
   clear hv
   have k : (h == [43]) = true \/ ((h == [43]) = false /\ (h == [42]) = true) := by rcases hcase with rfl | rfl <;> simp
   clear hcase
   rcases k with k1 | ⟨k1, k2⟩
   all_goals
    cases y with
    | false =>
     go_enter Tryz.func155, Tryz.ntmps155
     go_wp2_with (first
      | (go_at_call 125; refine (HH.out _ (up1 w _)).mono ?_; rintro e w1 ⟨rfl, hb1⟩; have g0 := block_up hb1 (block_new w _); have c0 := block_cell g0 0; have c1 := block_cell g0 1; simp only [List.getElem?_toArray, List.getElem?_cons_zero, List.getElem?_cons_succ] at c0 c1; obtain ⟨d2, d3, d4, d5, HA, HB⟩ := HC.out w1 (up_trans (up1 w _) hb1); have G0 := Lib.hid g0; have HB1 := Lib.hid (up_trans (up1 w _) hb1); clear hb1 g0)
      | (go_at_call 155; refine (IHA.out _ _ HA.out).mono ?_; rintro e w2 ⟨rfl, hb2⟩))
     go_ret
     exact ⟨rfl, up_trans HB1.out hb2⟩
    | true =>
     go_enter Tryz.func155, Tryz.ntmps155
     go_wp2_with (first
      | (go_at_call 125; refine (HH.out _ (up1 w _)).mono ?_; rintro e w1 ⟨rfl, hb1⟩; have g0 := block_up hb1 (block_new w _); have c0 := block_cell g0 0; have c1 := block_cell g0 1; simp only [List.getElem?_toArray, List.getElem?_cons_zero, List.getElem?_cons_succ] at c0 c1; obtain ⟨d2, d3, d4, d5, HA, HB⟩ := HC.out w1 (up_trans (up1 w _) hb1); have G0 := Lib.hid g0; have HB1 := Lib.hid (up_trans (up1 w _) hb1); clear hb1 g0)
      | (go_at_call 155; ((with_reducible refine (IHA.out _ _ HA.out).mono ?_); rintro e w2 ⟨rfl, hb2⟩; have g0 := block_up hb2 G0.out; have c0' := block_cell g0 0; have c1' := block_cell g0 1; simp only [List.getElem?_toArray, List.getElem?_cons_zero, List.getElem?_cons_succ] at c0' c1'; obtain ⟨_, _, d4', d5', _, HB'⟩ := HC.out w2 (up_trans HB1.out hb2); have HB2 := Lib.hid (up_trans HB1.out hb2); clear hb2 g0))
      | (go_at_call 155; ((with_reducible refine (IHB.out _ _ HB'.out).mono ?_); rintro e w3 ⟨rfl, hb3⟩)))
     go_ret
     exact ⟨rfl, up_trans HB2.out hb3⟩
 · have k1 := St_ne (fun h' => hcase (.inl h'))
   have k2 := St_ne (fun h' => hcase (.inr h'))
   by_cases h3 : h = [114, 101, 99]
   · subst h3
     have hv : (((([114, 101, 99] : List UInt8) == [43]) || (([114, 101, 99] : List UInt8) == [42])) && (y && z) || ((([114, 101, 99] : List UInt8) == [114, 101, 99]) && (l && z))) = (l && z) := by rw [k1, k2]; rfl
     rw [hv]
     clear hv hcase
     cases l with
     | false =>
      go_enter Tryz.func155, Tryz.ntmps155
      go_wp2_with (first
       | (go_at_call 125; refine (HH.out _ (up1 w _)).mono ?_; rintro e w1 ⟨rfl, hb1⟩; have g0 := block_up hb1 (block_new w _); have c0 := block_cell g0 0; have c1 := block_cell g0 1; simp only [List.getElem?_toArray, List.getElem?_cons_zero, List.getElem?_cons_succ] at c0 c1; obtain ⟨d2, d3, d4, d5, HA, HB⟩ := HC.out w1 (up_trans (up1 w _) hb1); have G0 := Lib.hid g0; have HB1 := Lib.hid (up_trans (up1 w _) hb1); clear hb1 g0)
       | (go_at_call 104; refine (HLP.out _).mono ?_; rintro e w2 ⟨rfl, rfl⟩))
      go_ret
      exact ⟨rfl, HB1.out⟩
     | true =>
      go_enter Tryz.func155, Tryz.ntmps155
      go_wp2_with (first
       | (go_at_call 125; refine (HH.out _ (up1 w _)).mono ?_; rintro e w1 ⟨rfl, hb1⟩; have g0 := block_up hb1 (block_new w _); have c0 := block_cell g0 0; have c1 := block_cell g0 1; simp only [List.getElem?_toArray, List.getElem?_cons_zero, List.getElem?_cons_succ] at c0 c1; obtain ⟨d2, d3, d4, d5, HA, HB⟩ := HC.out w1 (up_trans (up1 w _) hb1); have G0 := Lib.hid g0; have HB1 := Lib.hid (up_trans (up1 w _) hb1); clear hb1 g0)
       | (go_at_call 104; refine (HLP.out _).mono ?_; rintro e w2 ⟨rfl, rfl⟩)
       | (go_at_call 155; refine (IHB.out _ _ HB.out).mono ?_; rintro e w3 ⟨rfl, hb3⟩))
      go_ret
      exact ⟨rfl, up_trans HB1.out hb3⟩
   · have k3 := St_ne h3
     have hv : (((h == [43]) || (h == [42])) && (y && z) || ((h == [114, 101, 99]) && (l && z))) = false := by rw [k1, k2, k3]; rfl
     rw [hv]
     clear hv hcase h3
     go_enter Tryz.func155, Tryz.ntmps155
     go_wp2_with (go_at_call 125; refine (HH.out _ (up1 w _)).mono ?_; rintro e w1 ⟨rfl, hb1⟩; have g0 := block_up hb1 (block_new w _); have c0 := block_cell g0 0; have c1 := block_cell g0 1; simp only [List.getElem?_toArray, List.getElem?_cons_zero, List.getElem?_cons_succ] at c0 c1; obtain ⟨d2, d3, d4, d5, HA, HB⟩ := HC.out w1 (up_trans (up1 w _) hb1); have HB1 := Lib.hid (up_trans (up1 w _) hb1); clear hb1 g0)
     all_goals go_ret
     all_goals exact ⟨rfl, HB1.out⟩
theorem l1Is_any : ∀ (t : Tr) (v : Value) (w : World), OkT t -> TAt w (fun _ => True) t v -> Calls Tryz.prog 155 #[v] w fun e w' => e = .returned (.bool (tyOf t).isSome) /\ Below w.heap.size w w'
 | .mk s ps, v, w, hok, hp => by
  by_cases hs : s = []
  · subst hs
    match ps, hok, hp with
    | [], _, hp => exact l1Is_no [] (by simp) v w hp
    | [a], _, hp => exact l1Is_no [a] (by simp) v w hp
    | [a, b], _, hp => exact l1Is_no [a, b] (by simp) v w hp
    | [.mk h q, a, b], hok, hp => exact l1Is_three h q a b v w hp (fun v w hp => l1Is_any a v w hok.2.2.1 hp) (fun v w hp => l1Is_any b v w hok.2.2.2.1 hp)
    | a :: b :: c :: d :: r, _, hp => exact l1Is_no (a :: b :: c :: d :: r) (by simp) v w hp
  · have := hok.1 hs
    subst this
    exact l1Is_atom s hs v w hp
end Go.Proofs.YtpokompplapkhaaGreatDoor
namespace Go.Proofs.YtpokompplapkhaaGreatDoor
set_option maxHeartbeats 4000000
set_option maxRecDepth 100000
open Go.RowKit
set_option linter.unusedVariables false
set_option linter.unusedSimpArgs false
def LA (t : Tr) (m : Nat) : Prop := ∀ (v : Value) (w : World), TAt w (fun _ => True) t v -> Calls Tryz.prog 156 #[v] w fun e w' => e = .returned (.int .i64 m) /\ Below w.heap.size w w'
theorem l1Atoms_leaf (s : List UInt8) (hs : s ≠ []) (ps : List Tr) : LA (.mk s ps) 1 := by
 intro v w hp
 obtain ⟨A, c, rfl, _⟩ := TAt.parts hp
 have k0 := St_ne hs
 clear hp
 go_enter Tryz.func156, Tryz.ntmps156
 go_wp2
 go_ret
 exact ⟨rfl, up1 w _⟩
theorem l1Atoms_three (t0 a a2 : Tr) (m0 ma mb : Nat) (hm0 : m0 <= 100000) (hma : ma <= 100000) (hmb : mb <= 100000) (i0 : LA t0 m0) (ih : LA a ma) (ih2 : LA a2 mb) : LA (.mk [] [t0, a, a2]) (m0 + ma + mb) := by
 intro v w hp
 have I0 := Lib.hid i0
 have IH := Lib.hid ih
 have IH2 := Lib.hid ih2
 obtain ⟨A, c, rfl, hr⟩ := TAt.parts hp
 have hr0 := hr
 obtain ⟨b, o, _, _, rfl, _, _, _, _, _⟩ := (show ∃ b o A' c', A = some ⟨b, o, none⟩ /\ True /\ True /\ True /\ True /\ True from by
  obtain ⟨s0, p0⟩ := t0
  obtain ⟨b, o, A', c', h, _⟩ := hr.uncons
  exact ⟨b, o, A', c', h, trivial, trivial, trivial, trivial, trivial⟩)
 obtain ⟨x0, A0, n0, c0, d0, d1, h0, hr⟩ := hr.at2
 obtain ⟨x, A2, n2, c2, d2, d3, ha, hr⟩ := hr.at2
 obtain ⟨x4, A4, n4, c4, d4, d5, hb, _⟩ := hr.at2
 have HC : Hid (∀ w1, Below w.heap.size w w1 -> w1.cell? ⟨b, o, none⟩ = some (.string x0) /\ w1.cell? ⟨b, o + 1, none⟩ = some (.slice A0 n0 c0) /\ w1.cell? ⟨b, o + 2, none⟩ = some (.string x) /\ w1.cell? ⟨b, o + 3, none⟩ = some (.slice A2 n2 c2) /\ w1.cell? ⟨b, o + 4, none⟩ = some (.string x4) /\ w1.cell? ⟨b, o + 5, none⟩ = some (.slice A4 n4 c4) /\ Hid (TAt w1 (fun _ => True) t0 (.agg #[.string x0, .slice A0 n0 c0])) /\ Hid (TAt w1 (fun _ => True) a (.agg #[.string x, .slice A2 n2 c2])) /\ Hid (TAt w1 (fun _ => True) a2 (.agg #[.string x4, .slice A4 n4 c4]))) := fun w1 hb' => ⟨cell_up hb' d0, cell_up hb' d1, cell_up hb' d2, cell_up hb' d3, cell_up hb' d4, cell_up hb' d5, h0.up hb', ha.up hb', hb.up hb'⟩
 clear hp hr hr0 h0 ha hb i0 ih ih2 d0 d1 d2 d3 d4 d5
 have hlen : ([t0, a, a2] : List Tr).length = 3 := rfl
 rw [hlen]
 clear hlen
 go_enter Tryz.func156, Tryz.ntmps156
 go_wp2
 go_loopw [3, 4] (fun n i wr => ((i = .int .i64 0 /\ n = .int .i64 0) \/ (i = .int .i64 1 /\ n = .int .i64 (m0 : Int)) \/ (i = .int .i64 2 /\ n = .int .i64 ((m0 : Int) + (ma : Int))) \/ (i = .int .i64 3 /\ n = .int .i64 ((m0 : Int) + (ma : Int) + (mb : Int)))) /\ Hid (Below w.heap.size w wr) /\ Hid (wr.heap[w.heap.size]? = some (.cells #[.string (St []), .slice (some ⟨b, o, none⟩) 3 c] 59 (0, 0)))) (fun _ i _ => 3 - (intOf i).toNat)
 case atStart => exact ⟨.inl ⟨rfl, rfl⟩, up1 w _, block_new w _⟩
 case round =>
  obtain ⟨hin, HB, G0⟩ := hrel
  have e0 : wr.cell? ⟨w.heap.size, 0, none⟩ = some (.string (St [])) := block_cell G0.out 0
  have e1 : wr.cell? ⟨w.heap.size, 1, none⟩ = some (.slice (some ⟨b, o, none⟩) 3 c) := block_cell G0.out 1
  obtain ⟨d0, d1, d2, d3, d4, d5, H0, HA, HA2⟩ := HC.out wr HB.out
  rcases hin with ⟨rfl, rfl⟩ | ⟨rfl, rfl⟩ | ⟨rfl, rfl⟩ | ⟨rfl, rfl⟩
  · go_wp2_with (go_at_call 156; refine (I0.out _ _ H0.out).mono ?_; rintro e w2 ⟨rfl, hb2⟩)
    go_roundw
    case rel => exact ⟨.inr (.inl ⟨rfl, by simp⟩), up_trans HB.out hb2, block_up hb2 G0.out⟩
    case measure => simp [intOf]
  · go_wp2_with (go_at_call 156; refine (IH.out _ _ HA.out).mono ?_; rintro e w2 ⟨rfl, hb2⟩)
    go_roundw
    case rel => exact ⟨.inr (.inr (.inl ⟨rfl, rfl⟩)), up_trans HB.out hb2, block_up hb2 G0.out⟩
    case measure => simp [intOf]
  · go_wp2_with (go_at_call 156; refine (IH2.out _ _ HA2.out).mono ?_; rintro e w2 ⟨rfl, hb2⟩)
    go_roundw
    case rel => exact ⟨.inr (.inr (.inr ⟨rfl, rfl⟩)), up_trans HB.out hb2, block_up hb2 G0.out⟩
    case measure => simp [intOf]
  · go_wp2
    go_ret
    exact ⟨congrArg (fun z => Ending.returned (.int .i64 z)) (by omega), HB.out⟩
theorem NT.name_nil {s : List UInt8} (h : paramB s = true \/ loopB s = true) : s ≠ [] := by rintro rfl; revert h; decide
theorem l1Atoms_any : ∀ (n : NT), n.ok -> n.atoms <= 100000 -> LA n.toTr n.atoms
 | .zero, _, _ => l1Atoms_leaf _ (by simp) []
 | .one, _, _ => l1Atoms_leaf _ (by simp) []
 | .name s, h, _ => l1Atoms_leaf s (NT.name_nil h) []
 | .sum a b, h, hn => by
  simp only [NT.atoms] at hn
  exact l1Atoms_three _ _ _ 1 a.atoms b.atoms (by omega) (by omega) (by omega) (l1Atoms_leaf _ (by simp) []) (l1Atoms_any a h.1 (by omega)) (l1Atoms_any b h.2 (by omega))
 | .prod a b, h, hn => by
  simp only [NT.atoms] at hn
  exact l1Atoms_three _ _ _ 1 a.atoms b.atoms (by omega) (by omega) (by omega) (l1Atoms_leaf _ (by simp) []) (l1Atoms_any a h.1 (by omega)) (l1Atoms_any b h.2 (by omega))
 | .loop s a, h, hn => by
  simp only [NT.atoms] at hn
  exact l1Atoms_three _ _ _ 1 1 a.atoms (by omega) (by omega) (by omega) (l1Atoms_leaf _ (by simp) []) (l1Atoms_leaf s (NT.name_nil (.inr h.1)) []) (l1Atoms_any a h.2 (by omega))
theorem tyOf_atoms : ∀ (t : Tr) (n : NT), tyOf t = some n -> OkT t -> n.atoms <= t.size := by
 intro t n h hok
 obtain ⟨rfl, hn⟩ := tyOf_toTr t n hok h
 clear h hok
 induction n with
 | zero => simp [NT.atoms, NT.toTr, Tr.size, Tr.sizes]
 | one => simp [NT.atoms, NT.toTr, Tr.size, Tr.sizes]
 | name s => simp [NT.atoms, NT.toTr, Tr.size, Tr.sizes]
 | sum a b iha ihb => have := iha hn.1; have := ihb hn.2; simp only [NT.atoms, NT.toTr, Tr.size, Tr.sizes]; omega
 | prod a b iha ihb => have := iha hn.1; have := ihb hn.2; simp only [NT.atoms, NT.toTr, Tr.size, Tr.sizes]; omega
 | loop s a iha => have := iha hn.2; simp only [NT.atoms, NT.toTr, Tr.size, Tr.sizes]; omega
theorem rdTy_some {l : List UInt8} {n : NT} (h : rdTy l = some n) : n.ok /\ n.atoms <= 400 := by
 unfold rdTy at h
 split at h
 · cases h
 · rename_i t ht
   split at h
   · cases h
   · rename_i m hm
     split at h
     · cases h
     · simp at h
       subst h
       exact ⟨(tyOf_toTr _ _ (rdText_ok ht) hm).2, by omega⟩
def STPost (w : World) (o : Option NT) (e : Ending) (w' : World) : Prop :=
 Below w.heap.size w w' /\ match o with
  | some v => ∃ x A n c, e = .returned (.tuple #[.agg #[.string x, .slice A n c], .bool true]) /\ TAt w' (fun k => w.heap.size <= k) v.toTr (.agg #[.string x, .slice A n c])
  | none => ∃ x A n c, e = .returned (.tuple #[.agg #[.string x, .slice A n c], .bool false])
theorem l1Type_none (s : ByteArray) (w : World) (hs : s.size <= 9223372036854775807) (h : rdText s.data.toList = none) : Calls Tryz.prog 102 #[.string s] w (STPost w none) := by
 have hc : ∀ w, Calls Tryz.prog 121 #[.string s] w (fun e w' => Below w.heap.size w w' /\ ∃ x A n c, e = .returned (.tuple #[.agg #[.string x, .slice A n c], .bool false])) := fun w => by
  have := l1Parse_any s w hs
  rw [h] at this
  exact this
 have HCALL := Lib.hid hc
 clear hc hs h
 go_enter Tryz.func102, Tryz.ntmps102
 go_wp2_with (go_at_call 121; refine (HCALL.out _).mono ?_; rintro e w1 ⟨hb1, x, A, n, c, rfl⟩; have g0 : w1.heap[w.heap.size]? = some (.cells #[.string (St []), .slice none 0 0] 59 (0, 0)) := block_up hb1 (block_new w _); have c0 : w1.cell? ⟨w.heap.size, 0, none⟩ = some (.string (St [])) := block_cell g0 0; have c1 : w1.cell? ⟨w.heap.size, 1, none⟩ = some (.slice none 0 0) := block_cell g0 1; have f0 := block_free g0 0; have f1 := block_free g0 1; have l0 := lt_of_block g0; have HB1 := Lib.hid (up_trans (up1 w _) hb1); clear hb1 g0)
 go_region
 go_wp2
 refine bodyPost_ret (v := .tuple #[.agg #[.string x, .slice A n c], .bool false]) (by simp [results, Tryz.results102, go_sem, c0, c1, l0]) rfl ?_
 exact ⟨by repeat (first | exact HB1.out | refine up_drew ?_ | refine up_alloc ?_ _ | refine set0 ?_ (Nat.le_refl _)), _, _, _, _, rfl⟩
theorem l1Type_some (s : ByteArray) (w : World) (hs : s.size <= 9223372036854775807) (t : Tr) (h : rdText s.data.toList = some t) (hv : tyOf t = none) : Calls Tryz.prog 102 #[.string s] w (STPost w none) := by
 have hok := rdText_ok h
 have hc : ∀ w, Calls Tryz.prog 121 #[.string s] w (fun e w' => Below w.heap.size w w' /\ ∃ x A n c, e = .returned (.tuple #[.agg #[.string x, .slice A n c], .bool true]) /\ TAt w' (fun _ => True) t (.agg #[.string x, .slice A n c])) := fun w => by
  have := l1Parse_any s w hs
  rw [h] at this
  refine this.mono fun e w' ⟨h1, v, h2, h3⟩ => ?_
  obtain ⟨x, A, n, c, rfl⟩ := h3.form
  exact ⟨h1, x, A, n, c, h2, h3.weak fun _ _ => trivial⟩
 have hsh : ∀ (v : Value) (w : World), TAt w (fun _ => True) t v -> Calls Tryz.prog 155 #[v] w fun e w' => e = .returned (.bool false) /\ Below w.heap.size w w' := fun v w hp => by
  have := l1Is_any t v w hok hp
  rw [hv] at this
  exact this
 have HCALL := Lib.hid hc
 have HSH := Lib.hid hsh
 clear hc hs h hok hv hsh
 go_enter Tryz.func102, Tryz.ntmps102
 go_wp2_with (go_at_call 121; refine (HCALL.out _).mono ?_; rintro e w1 ⟨hb1, x, A, n, c, rfl, hv⟩; have HV := Lib.hid hv; have g0 : w1.heap[w.heap.size]? = some (.cells #[.string (St []), .slice none 0 0] 59 (0, 0)) := block_up hb1 (block_new w _); have c0 : w1.cell? ⟨w.heap.size, 0, none⟩ = some (.string (St [])) := block_cell g0 0; have c1 : w1.cell? ⟨w.heap.size, 1, none⟩ = some (.slice none 0 0) := block_cell g0 1; have f0 := block_free g0 0; have f1 := block_free g0 1; have l0 := lt_of_block g0; have G0 := Lib.hid g0; have HB1 := Lib.hid (up_trans (up1 w _) hb1); clear hb1 g0 hv)
 go_region_with (first
  | (go_at_call 155; (with_reducible refine (HSH.out _ _ (HV.out.up (up_drew (up1 w1 _)))).mono ?_); rintro e w2 ⟨rfl, hb2⟩; have g1 : w2.heap[w1.heap.size]? = some (.cells #[.string x, .slice A n c] 59 (0, 0)) := block_up hb2 (block_new w1 _); have k0 : w2.cell? ⟨w1.heap.size, 0, none⟩ = some (.string x) := block_cell g1 0; have k1 : w2.cell? ⟨w1.heap.size, 1, none⟩ = some (.slice A n c) := block_cell g1 1; have g0 := block_up hb2 (block_alloc G0.out _); have c0' : w2.cell? ⟨w.heap.size, 0, none⟩ = some (.string (St [])) := block_cell g0 0; have c1' : w2.cell? ⟨w.heap.size, 1, none⟩ = some (.slice none 0 0) := block_cell g0 1; have f0' := block_free g0 0; have f1' := block_free g0 1; have l0' := lt_of_block g0; have HB2 := Lib.hid (up_trans (up_drew (up_alloc HB1.out _)) hb2); clear hb2 g0 g1))
 all_goals go_wp2
 all_goals refine bodyPost_ret (v := .tuple #[.agg #[.string x, .slice A n c], .bool false]) (by simp [results, Tryz.results102, go_sem, c0', c1', l0']) rfl ?_
 all_goals exact ⟨by repeat (first | exact HB2.out | refine up_drew ?_ | refine up_alloc ?_ _ | refine set0 ?_ (Nat.le_refl _)), _, _, _, _, rfl⟩
theorem l1Type_ok (s : ByteArray) (w : World) (hs : s.size <= 9223372036854775807) (t : Tr) (x0 : NT) (h : rdText s.data.toList = some t) (hv : tyOf t = some x0) :
 Calls Tryz.prog 102 #[.string s] w (fun e w' => Below w.heap.size w w' /\ ∃ x A n c, e = .returned (.tuple #[.agg #[.string x, .slice A n c], .bool (decide (x0.atoms <= 400))]) /\ TAt w' (fun k => w.heap.size <= k) x0.toTr (.agg #[.string x, .slice A n c])) := by
 have hok := rdText_ok h
 have hsz := rdText_size h
 have hn := tyOf_atoms t x0 hv hok
 have ht := (tyOf_toTr t x0 hok hv).1
 have hc : ∀ w, Calls Tryz.prog 121 #[.string s] w (fun e w' => Below w.heap.size w w' /\ ∃ x A n c, e = .returned (.tuple #[.agg #[.string x, .slice A n c], .bool true]) /\ TAt w' (fun k => w.heap.size <= k) x0.toTr (.agg #[.string x, .slice A n c])) := fun w => by
  have := l1Parse_any s w hs
  rw [h] at this
  refine this.mono fun e w' ⟨h1, v, h2, h3⟩ => ?_
  obtain ⟨x, A, n, c, rfl⟩ := h3.form
  exact ⟨h1, x, A, n, c, h2, ht ▸ h3⟩
 have hsh : ∀ (v : Value) (w : World), TAt w (fun _ => True) x0.toTr v -> Calls Tryz.prog 155 #[v] w fun e w' => e = .returned (.bool true) /\ Below w.heap.size w w' := fun v w hp => by
  have := l1Is_any t v w hok (ht ▸ hp)
  rw [hv] at this
  exact this
 have hsi : ∀ (v : Value) (w : World), TAt w (fun _ => True) x0.toTr v -> Calls Tryz.prog 156 #[v] w fun e w' => e = .returned (.int .i64 x0.atoms) /\ Below w.heap.size w w' := l1Atoms_any x0 (tyOf_toTr t x0 hok hv).2 (by omega)
 have HCALL := Lib.hid hc
 have HSH := Lib.hid hsh
 have HSI := Lib.hid hsi
 clear hc hs h hok hv hsh hsi hn hsz ht
 have hd : (decide ((x0.atoms : Int) <= 400)) = decide (x0.atoms <= 400) := by simp; omega
 generalize decide (x0.atoms <= 400) = b at *
 generalize x0.atoms = n0 at *
 go_enter Tryz.func102, Tryz.ntmps102
 go_wp2_with (go_at_call 121; refine (HCALL.out _).mono ?_; rintro e w1 ⟨hb1, x, A, n, c, rfl, hv⟩; have HV := Lib.hid hv; have g0 : w1.heap[w.heap.size]? = some (.cells #[.string (St []), .slice none 0 0] 59 (0, 0)) := block_up hb1 (block_new w _); have c0 : w1.cell? ⟨w.heap.size, 0, none⟩ = some (.string (St [])) := block_cell g0 0; have c1 : w1.cell? ⟨w.heap.size, 1, none⟩ = some (.slice none 0 0) := block_cell g0 1; have f0 := block_free g0 0; have f1 := block_free g0 1; have l0 := lt_of_block g0; have G0 := Lib.hid g0; have HB1 := Lib.hid (up_trans (up1 w _) hb1); clear hb1 g0 hv)
 go_region_with (first
  | (go_at_call 155; (with_reducible refine (HSH.out _ _ ((HV.out.up (up_drew (up1 w1 _))).weak fun _ _ => trivial)).mono ?_); rintro e w2 ⟨rfl, hb2⟩; have g1 : w2.heap[w1.heap.size]? = some (.cells #[.string x, .slice A n c] 59 (0, 0)) := block_up hb2 (block_new w1 _); have k0 : w2.cell? ⟨w1.heap.size, 0, none⟩ = some (.string x) := block_cell g1 0; have k1 : w2.cell? ⟨w1.heap.size, 1, none⟩ = some (.slice A n c) := block_cell g1 1; have g0 := block_up hb2 (block_alloc G0.out _); have G0' := Lib.hid g0; have G1' := Lib.hid g1; have c0' : w2.cell? ⟨w.heap.size, 0, none⟩ = some (.string (St [])) := block_cell g0 0; have c1' : w2.cell? ⟨w.heap.size, 1, none⟩ = some (.slice none 0 0) := block_cell g0 1; have f0' := block_free g0 0; have f1' := block_free g0 1; have l0' := lt_of_block g0; have l1' := lt_of_block g1; have HB2 := Lib.hid (up_trans (up_drew (up_alloc HB1.out _)) hb2); have HV2 : Hid (TAt w2 _ _ _) := Lib.hid ((HV.out.up (up_drew (up1 w1 _))).up hb2); clear hb2 g0 g1)
  | (go_at_call 156; (with_reducible refine (HSI.out _ _ (HV2.out.weak fun _ _ => trivial)).mono ?_); rintro e w3 ⟨rfl, hb3⟩; have g1 := block_up hb3 G1'.out; have g0 := block_up hb3 G0'.out; have k0' : w3.cell? ⟨w1.heap.size, 0, none⟩ = some (.string x) := block_cell g1 0; have k1' : w3.cell? ⟨w1.heap.size, 1, none⟩ = some (.slice A n c) := block_cell g1 1; have c0'' : w3.cell? ⟨w.heap.size, 0, none⟩ = some (.string (St [])) := block_cell g0 0; have c1'' : w3.cell? ⟨w.heap.size, 1, none⟩ = some (.slice none 0 0) := block_cell g0 1; have f0'' := block_free g0 0; have f1'' := block_free g0 1; have l0'' := lt_of_block g0; have l1'' := lt_of_block g1; have HB3 := Lib.hid (up_trans HB2.out hb3); have HV3 : Hid (TAt w3 _ _ _) := Lib.hid (HV2.out.up hb3); clear hb3 g0 g1))
 all_goals go_wp2
 all_goals refine bodyPost_ret (v := .tuple #[.agg #[.string x, .slice A n c], .bool b]) (by simp [results, Tryz.results102, go_sem, c0'', c1'', l0'', <- hd]) rfl ?_
 all_goals exact ⟨by repeat (first | exact HB3.out | refine up_drew ?_ | refine up_alloc ?_ _ | refine set0 ?_ (Nat.le_refl _)), _, _, _, _, rfl, HV3.out.move fun k hk hok => by
  have h' : w.heap.size + 1 <= k := by simpa using hok
  refine ⟨by omega, ?_⟩
  repeat (first | rfl | rw [drew_heap] | rw [Below.heap_setCell _ ⟨w.heap.size, 0, none⟩ _ k (by show k ≠ w.heap.size; omega)] | rw [Below.heap_setCell _ ⟨w.heap.size, 1, none⟩ _ k (by show k ≠ w.heap.size; omega)])⟩
theorem l1Type_any (s : ByteArray) (w : World) (hs : s.size <= 9223372036854775807) : Calls Tryz.prog 102 #[.string s] w (STPost w (rdTy s.data.toList)) := by
 cases h : rdText s.data.toList with
 | none => rw [show rdTy s.data.toList = none by unfold rdTy; rw [h]]; exact l1Type_none s w hs h
 | some t =>
  cases hv : tyOf t with
  | none => rw [show rdTy s.data.toList = none by unfold rdTy; rw [h]; simp only; rw [hv]]; exact l1Type_some s w hs t h hv
  | some v =>
   refine (l1Type_ok s w hs t v h hv).mono fun e w' ⟨hb, x, A, n, c, he, hr⟩ => ?_
   by_cases hn : v.atoms <= 400
   · rw [show rdTy s.data.toList = some v by unfold rdTy; rw [h]; simp only; rw [hv]; simp only; rw [if_neg (by omega)]]
     exact ⟨hb, x, A, n, c, by rw [he, decide_eq_true hn], hr⟩
   · rw [show rdTy s.data.toList = none by unfold rdTy; rw [h]; simp only; rw [hv]; simp only; rw [if_pos (by omega)]]
     exact ⟨hb, x, A, n, c, by rw [he, decide_eq_false hn]⟩
end Go.Proofs.YtpokompplapkhaaGreatDoor
namespace Go.Proofs.YtpokompplapkhaaGreatDoor
set_option maxHeartbeats 4000000
set_option maxRecDepth 100000
open Go.RowKit
set_option linter.unusedVariables false
set_option linter.unusedSimpArgs false
mutual
def Tr.txt : Tr -> List UInt8
 | .mk s ps => if s = [] then 40 :: Tr.txts ps else s
def Tr.txts : List Tr -> List UInt8
 | [] => []
 | t :: ts => t.txt ++ (match ts with | [] => [41] | _ :: _ => 32 :: Tr.txts ts)
end
mutual
def Tr.dep : Tr -> Nat
 | .mk s ps => if s = [] then Tr.deps ps + 1 else 0
def Tr.deps : List Tr -> Nat
 | [] => 0
 | t :: ts => max t.dep (Tr.deps ts)
end
mutual
def Tr.wf : Tr -> Prop
 | .mk s ps => (s ≠ [] /\ (∀ b ∈ s, atomB b = true) /\ ps = []) \/ (s = [] /\ ps ≠ [] /\ Tr.wfs ps)
def Tr.wfs : List Tr -> Prop
 | [] => True
 | t :: ts => t.wf /\ Tr.wfs ts
end
theorem wfs_mem {ts : List Tr} (h : Tr.wfs ts) : ∀ t ∈ ts, t.wf := by
 induction ts with
 | nil => intro t ht; cases ht
 | cons a tl ih =>
  intro t ht
  rcases List.mem_cons.1 ht with rfl | ht
  · exact h.1
  · exact ih h.2 t ht
theorem deps_mem (ts : List Tr) : ∀ t ∈ ts, t.dep <= Tr.deps ts := by
 induction ts with
 | nil => intro t ht; cases ht
 | cons a tl ih =>
  intro t ht
  simp only [Tr.deps]
  rcases List.mem_cons.1 ht with rfl | ht
  · exact Nat.le_max_left _ _
  · exact Nat.le_trans (ih t ht) (Nat.le_max_right _ _)
theorem deps_le {ts : List Tr} {d : Nat} (h : ∀ t ∈ ts, t.dep <= d) : Tr.deps ts <= d := by
 induction ts with
 | nil => simp [Tr.deps]
 | cons a tl ih =>
  simp only [Tr.deps]
  exact Nat.max_le.2 ⟨h a (by simp), ih fun t ht => h t (by simp [ht])⟩
theorem wfs_of {ts : List Tr} (h : ∀ t ∈ ts, t.wf) : Tr.wfs ts := by
 induction ts with
 | nil => trivial
 | cons a tl ih => exact ⟨h a (by simp), ih fun t ht => h t (by simp [ht])⟩
theorem txts_len (ts : List Tr) : ts.length <= (Tr.txts ts).length := by
 induction ts with
 | nil => simp
 | cons a tl ih =>
  simp only [Tr.txts, List.length_cons, List.length_append]
  cases tl with
  | nil => simp
  | cons u r =>
   simp only [List.length_cons] at ih ⊢
   omega
theorem loop_inv (f : List UInt8 -> Option (Tr × List UInt8)) (d : Nat) (hf : ∀ l t r, f l = some (t, r) -> l = t.txt ++ r /\ t.wf /\ t.dep <= d) : ∀ (n : Nat) (acc : List Tr) (l : List UInt8) (t : Tr) (r : List UInt8), rdLoop f n acc l = some (t, r) ->
 ∃ ps, ps ≠ [] /\ t = .mk [] (acc ++ ps) /\ l = Tr.txts ps ++ r /\ (∀ t ∈ ps, t.wf) /\ (∀ t ∈ ps, t.dep <= d)
 | 0, _, _, _, _, h => by simp [rdLoop] at h
 | n + 1, acc, l, t, r, h => by
  unfold rdLoop at h
  split at h
  · rename_i t' b r' hfl
    obtain ⟨h1, h2, h3⟩ := hf _ _ _ hfl
    split at h
    · rename_i hb
      subst hb
      simp only [Option.some.injEq, Prod.mk.injEq] at h
      obtain ⟨rfl, rfl⟩ := h
      exact ⟨[t'], by simp, rfl, by rw [h1]; simp [Tr.txts], by simpa using h2, by simpa using h3⟩
    · split at h
      · rename_i hb
        subst hb
        obtain ⟨ps, hps, rfl, rfl, hw, hd⟩ := loop_inv f d hf n _ _ _ _ h
        refine ⟨t' :: ps, by simp, by simp, ?_, ?_, ?_⟩
        · rw [h1]
          cases ps with
          | nil => exact absurd rfl hps
          | cons u q => simp [Tr.txts]
        · intro t ht
          rcases List.mem_cons.1 ht with rfl | ht
          · exact h2
          · exact hw t ht
        · intro t ht
          rcases List.mem_cons.1 ht with rfl | ht
          · exact h3
          · exact hd t ht
      · simp at h
  · simp at h
theorem rd_inv : ∀ (d : Nat) (l : List UInt8) (t : Tr) (r : List UInt8), rd d l = some (t, r) -> l = t.txt ++ r /\ t.wf /\ t.dep <= d
 | d, l, t, r, h => by
  unfold rd at h
  split at h
  · rename_i h0
    simp only [Option.some.injEq, Prod.mk.injEq] at h
    obtain ⟨rfl, rfl⟩ := h
    refine ⟨?_, .inl ⟨h0, fun b hb => ?_, rfl⟩, by simp [Tr.dep, h0]⟩
    · simp [Tr.txt, h0]
    · exact List.all_eq_true.1 List.all_takeWhile b hb
  · cases d with
    | zero => simp at h
    | succ d =>
     cases l with
     | nil => simp at h
     | cons b r' =>
      simp only at h
      split at h
      · rename_i hb
        subst hb
        obtain ⟨ps, hps, rfl, rfl, hw, hd⟩ := loop_inv (rd d) d (fun l t r h => rd_inv d l t r h) _ _ _ _ _ h
        refine ⟨by simp [Tr.txt], .inr ⟨rfl, by simpa using hps, by simpa using wfs_of hw⟩, ?_⟩
        have := deps_le hd
        simp [Tr.dep]
        exact this
      · simp at h
theorem rdText_inv {l : List UInt8} {t : Tr} (h : rdText l = some t) : l = t.txt /\ t.wf /\ t.dep <= 300 /\ l.length <= 8000 := by
 unfold rdText at h
 split at h
 · cases h
 · split at h
   · rename_i hl t' hr
     obtain ⟨h1, h2, h3⟩ := rd_inv _ _ _ _ hr
     cases h
     exact ⟨by simpa using h1, h2, h3, by omega⟩
   · cases h
end Go.Proofs.YtpokompplapkhaaGreatDoor

