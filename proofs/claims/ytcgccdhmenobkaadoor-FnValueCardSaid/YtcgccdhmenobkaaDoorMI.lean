/- Canonical texts, read back: the plain law. Names of put and opened types, and emptiness: the plain law. Whether a name is in a row; numbers' texts. -/
import Derived.Test.YtcgccdhmenobkaaDoorMH
import Derived.Test.YtcgccdhmenobkaaDoorMF
import Derived.Lib.AppendIntMem
import Derived.Lib.LaidTab
namespace Go.Proofs.YtcgccdhmenobkaaDoor
open Go.RowKit
set_option linter.unusedVariables false
set_option linter.unusedSimpArgs false
mutual
theorem wf_okT : ∀ {t : Tr}, t.wf -> OkT t
 | .mk s ps, h => by
  rcases h with ⟨_, _, rfl⟩ | ⟨rfl, _, h⟩
  · exact ⟨fun _ => rfl, trivial⟩
  · exact ⟨fun h => absurd rfl h, wfs_okT h⟩
theorem wfs_okT : ∀ {ts : List Tr}, Tr.wfs ts -> OkTs ts
 | [], _ => trivial
 | _ :: _, h => ⟨wf_okT h.1, wfs_okT h.2⟩
end
theorem toTr_inj : ∀ {a b : NT}, a.ok3 -> b.ok3 -> a.toTr = b.toTr -> a = b
 | .zero, b, _, hb, h => by
  cases b <;> simp [NT.toTr] at h ⊢
  exact absurd h.symm hb.2.1
 | .one, b, _, hb, h => by
  cases b <;> simp [NT.toTr] at h ⊢
  exact absurd h.symm hb.2.2.1
 | .name s, b, ha, hb, h => by
  cases b <;> simp [NT.toTr] at h ⊢
  · exact ha.2.1 h
  · exact ha.2.2.1 h
  · exact h
 | .sum x y, b, ha, hb, h => by
  cases b <;> simp [NT.toTr] at h ⊢
  exact ⟨toTr_inj ha.1 hb.1 h.1, toTr_inj ha.2 hb.2 h.2⟩
 | .prod x y, b, ha, hb, h => by
  cases b <;> simp [NT.toTr] at h ⊢
  exact ⟨toTr_inj ha.1 hb.1 h.1, toTr_inj ha.2 hb.2 h.2⟩
 | .loop s x, b, ha, hb, h => by
  cases b <;> simp [NT.toTr] at h ⊢
  exact ⟨h.1, toTr_inj ha.2 hb.2 h.2⟩
theorem tyOf_ok : ∀ {n : NT}, n.ok -> tyOf n.toTr = some n
 | .zero, _ => tyOf_zero []
 | .one, _ => tyOf_one []
 | .name s, h => tyOf_name h []
 | .sum a b, h => by
  obtain ⟨h1, h2, h3, h4⟩ := nil_no
  rw [NT.toTr, tyOf_three h1 h2 h3 h4, tyOf_ok h.1, tyOf_ok h.2]
  rfl
 | .prod a b, h => by
  obtain ⟨h1, h2, h3, h4⟩ := nil_no
  rw [NT.toTr, tyOf_three h1 h2 h3 h4, tyOf_ok h.1, tyOf_ok h.2]
  rfl
 | .loop s a, h => by
  obtain ⟨h1, h2, h3, h4⟩ := nil_no
  rw [NT.toTr, tyOf_three h1 h2 h3 h4, tyOf_ok h.2]
  simp [tyThree, Tr.atom, h.1]
theorem rdTy_tr {l : List UInt8} {n : NT} (h : rdTy l = some n) : l = n.toTr.txt /\ n.toTr.wf /\ n.toTr.dep <= 300 /\ l.length <= 8000 /\ n.ok /\ n.atoms <= 400 := by
 have h0 := rdTy_some h
 unfold rdTy at h
 split at h
 · cases h
 · rename_i t ht
   obtain ⟨h1, hw, hd, hl⟩ := rdText_inv ht
   split at h
   · cases h
   · rename_i m hm
     split at h
     · cases h
     · cases h
       obtain ⟨rfl, _⟩ := tyOf_toTr t n (wf_okT hw) hm
       exact ⟨h1, hw, hd, hl, h0.1, h0.2⟩
theorem rdTy_of {n : NT} (h : n.ok) (ha : n.atoms <= 400) (hd : n.toTr.dep <= 300) (hl : n.toTr.txt.length <= 8000) : rdTy n.toTr.txt = some n := by
 unfold rdTy
 rw [rdText_txt (ok3_wf (ok_ok3 h)), if_pos ⟨hl, hd⟩]
 simp only
 rw [tyOf_ok h]
 simp only
 rw [if_neg (by omega)]
theorem apart_db (n : NT) (hn : n.ok3) : n.apart.db [] = n.db [] :=
 ren_db n.names n [] 0 hn ⟨by simp, by simp⟩ (cov_own n _ fun s hs => hs)
theorem apart_ok3 (n : NT) (hn : n.ok3) (ha : n.atoms <= 400) : n.apart.ok3 := ren_ok3 n.names n [] 0 hn (by simp) (by
 have h1 : n.atoms * (n.names.length + 1) <= 400 * 401 := Nat.mul_le_mul (by omega) (by have := names_len n; omega)
 omega)
theorem apart_atoms (n : NT) : n.apart.atoms = n.atoms := ren_atoms n.names n [] 0
theorem told_rd {n : NT} (hn : n.ok3) {c : List UInt8} (h : (n.db []).told = some c) : rdTy c = some n.apart /\ n.atoms <= 400 := by
 rw [<- canonN_told n hn, canonN] at h
 split at h
 · cases h
 · rename_i ha
   split at h
   · cases h
   · rename_i hr
     injection h with h
     cases hm : rdTy n.apart.toTr.txt with
     | none => exact absurd hm hr
     | some m =>
      obtain ⟨h1, hw, _, _, hok, _⟩ := rdTy_tr hm
      have h2 := txt_inj (ok3_wf (apart_ok3 n hn (by omega))) hw h1
      have h3 := toTr_inj (apart_ok3 n hn (by omega)) (ok_ok3 hok) h2
      rw [<- h, hm, <- h3]
      exact ⟨rfl, by omega⟩
theorem told_db {n : NT} (hn : n.ok3) {c : List UInt8} (h : (n.db []).told = some c) : ∃ m, rdTy c = some m /\ m.ok /\ m.db [] = n.db [] /\ m.atoms = n.atoms /\ m.names = n.names /\ (m.db []).told = some c := by
 obtain ⟨h1, h2⟩ := told_rd hn h
 have h3 := apart_db n hn
 have h4 := rdTy_some h1
 refine ⟨_, h1, h4.1, h3, apart_atoms n, ?_, by rw [h3]; exact h⟩
 rw [<- fnames_db _ (ok_ok3 h4.1), h3, fnames_db n hn]
end Go.Proofs.YtcgccdhmenobkaaDoor
namespace Go.Proofs.YtcgccdhmenobkaaDoor
open Go.RowKit
set_option linter.unusedVariables false
set_option linter.unusedSimpArgs false
def Ty.has (s : List UInt8) : Ty -> Prop
 | .name x => x = s
 | .sum a b => a.has s \/ b.has s
 | .prod a b => a.has s \/ b.has s
 | .loop a => a.has s
 | _ => False
theorem nstep_mem (s : List UInt8) (ls : List (List UInt8)) (u : Ty) : s ∈ nstep ls u ↔ s ∈ ls \/ u = .name s := by
 cases u with
 | name x =>
  simp only [nstep]
  split
  · rename_i h
    constructor
    · exact .inl
    · rintro (h1 | h1)
      · exact h1
      · cases h1; exact h
  · simp only [List.mem_append, List.mem_singleton]
    constructor
    · rintro (h1 | rfl)
      · exact .inl h1
      · exact .inr rfl
    · rintro (h1 | h1)
      · exact .inl h1
      · cases h1; exact .inr rfl
 | _ => simp [nstep]
theorem fold_mem (s : List UInt8) : ∀ (l : List Ty) (ls : List (List UInt8)), s ∈ l.foldl nstep ls ↔ s ∈ ls \/ Ty.name s ∈ l
 | [], ls => by simp
 | u :: l, ls => by
  rw [List.foldl_cons, fold_mem s l, nstep_mem]
  simp only [List.mem_cons]
  constructor
  · rintro ((h | rfl) | h)
    · exact .inl h
    · exact .inr (.inl rfl)
    · exact .inr (.inr h)
  · rintro (h | rfl | h)
    · exact .inl (.inl h)
    · exact .inl (.inr rfl)
    · exact .inr h
theorem pre_has (s : List UInt8) : ∀ (t : Ty), Ty.name s ∈ t.pre ↔ t.has s
 | .zero => by simp [Ty.pre, Ty.has]
 | .one => by simp [Ty.pre, Ty.has]
 | .bound _ => by simp [Ty.pre, Ty.has]
 | .name x => by
  simp only [Ty.pre, Ty.has, List.mem_singleton]
  constructor
  · intro h; cases h; rfl
  · rintro rfl; rfl
 | .sum a b => by simp [Ty.pre, Ty.has, pre_has s a, pre_has s b]
 | .prod a b => by simp [Ty.pre, Ty.has, pre_has s a, pre_has s b]
 | .loop a => by simp [Ty.pre, Ty.has, pre_has s a]
theorem fnames_has (s : List UInt8) (t : Ty) : s ∈ t.fnames ↔ t.has s := by
 rw [Ty.fnames, fold_mem, pre_has]
 simp
theorem names_has (s : List UInt8) (n : NT) (hn : n.ok3) : s ∈ n.names ↔ (n.db []).has s := by rw [<- fnames_db n hn, fnames_has]
theorem nstep_nodup (u : Ty) {ls : List (List UInt8)} (h : ls.Nodup) : (nstep ls u).Nodup := by
 cases u with
 | name x =>
  simp only [nstep]
  split
  · exact h
  · rename_i hx
    rw [List.nodup_append]
    refine ⟨h, by simp, ?_⟩
    intro a ha b hb
    simp only [List.mem_singleton] at hb
    subst hb
    rintro rfl
    exact hx ha
 | _ => exact h
theorem fold_nodup : ∀ (l : List Ty) {ls : List (List UInt8)}, ls.Nodup -> (l.foldl nstep ls).Nodup
 | [], _, h => h
 | u :: l, _, h => fold_nodup l (nstep_nodup u h)
theorem names_nodup (n : NT) (hn : n.ok3) : n.names.Nodup := by
 rw [<- fnames_db n hn]
 exact fold_nodup _ (by simp)
theorem put_has (nm s : List UInt8) (u : Ty) : ∀ (t : Ty), (t.put nm u).has s ↔ (t.has s /\ s ≠ nm) \/ (t.has nm /\ u.has s)
 | .zero => by simp [Ty.put, Ty.has]
 | .one => by simp [Ty.put, Ty.has]
 | .bound _ => by simp [Ty.put, Ty.has]
 | .name x => by
  simp only [Ty.put]
  split
  · rename_i h
    subst h
    simp only [Ty.has, true_and]
    constructor
    · exact .inr
    · rintro (⟨rfl, h⟩ | h)
      · exact absurd rfl h
      · exact h
  · rename_i h
    simp only [Ty.has]
    constructor
    · rintro rfl; exact .inl ⟨rfl, h⟩
    · rintro (⟨h1, _⟩ | ⟨h1, _⟩)
      · exact h1
      · exact absurd h1 h
 | .sum a b => by
  simp only [Ty.put, Ty.has, put_has nm s u a, put_has nm s u b]
  constructor
  · rintro ((⟨h1, h2⟩ | ⟨h1, h2⟩) | ⟨h1, h2⟩ | ⟨h1, h2⟩)
    · exact .inl ⟨.inl h1, h2⟩
    · exact .inr ⟨.inl h1, h2⟩
    · exact .inl ⟨.inr h1, h2⟩
    · exact .inr ⟨.inr h1, h2⟩
  · rintro (⟨h1 | h1, h2⟩ | ⟨h1 | h1, h2⟩)
    · exact .inl (.inl ⟨h1, h2⟩)
    · exact .inr (.inl ⟨h1, h2⟩)
    · exact .inl (.inr ⟨h1, h2⟩)
    · exact .inr (.inr ⟨h1, h2⟩)
 | .prod a b => by
  simp only [Ty.put, Ty.has, put_has nm s u a, put_has nm s u b]
  constructor
  · rintro ((⟨h1, h2⟩ | ⟨h1, h2⟩) | ⟨h1, h2⟩ | ⟨h1, h2⟩)
    · exact .inl ⟨.inl h1, h2⟩
    · exact .inr ⟨.inl h1, h2⟩
    · exact .inl ⟨.inr h1, h2⟩
    · exact .inr ⟨.inr h1, h2⟩
  · rintro (⟨h1 | h1, h2⟩ | ⟨h1 | h1, h2⟩)
    · exact .inl (.inl ⟨h1, h2⟩)
    · exact .inr (.inl ⟨h1, h2⟩)
    · exact .inl (.inr ⟨h1, h2⟩)
    · exact .inr (.inr ⟨h1, h2⟩)
 | .loop a => by simp only [Ty.put, Ty.has, put_has nm s u a]
theorem put_id (nm : List UInt8) (u : Ty) : ∀ (t : Ty), ¬ t.has nm -> t.put nm u = t
 | .zero, _ => rfl
 | .one, _ => rfl
 | .bound _, _ => rfl
 | .name x, h => by
  simp only [Ty.put]
  rw [if_neg (show ¬ x = nm from h)]
 | .sum a b, h => by
  simp only [Ty.has, not_or] at h
  simp only [Ty.put, put_id nm u a h.1, put_id nm u b h.2]
 | .prod a b, h => by
  simp only [Ty.has, not_or] at h
  simp only [Ty.put, put_id nm u a h.1, put_id nm u b h.2]
 | .loop a, h => by simp only [Ty.put, put_id nm u a h]
theorem opened_has (s : List UInt8) (u : Ty) : ∀ (t : Ty) (k : Nat), (t.has s -> (t.opened u k).has s) /\ ((t.opened u k).has s -> t.has s \/ u.has s)
 | .zero, _ => by simp [Ty.opened, Ty.has]
 | .one, _ => by simp [Ty.opened, Ty.has]
 | .name x, _ => by simp only [Ty.opened, Ty.has]; exact ⟨id, .inl⟩
 | .bound j, k => by
  simp only [Ty.opened, Ty.has, false_implies, true_and, false_or]
  split
  · exact id
  · simp [Ty.has]
 | .sum a b, k => by
  have h1 := opened_has s u a k
  have h2 := opened_has s u b k
  simp only [Ty.opened, Ty.has]
  refine ⟨?_, ?_⟩
  · rintro (h | h)
    · exact .inl (h1.1 h)
    · exact .inr (h2.1 h)
  · rintro (h | h)
    · rcases h1.2 h with h | h
      · exact .inl (.inl h)
      · exact .inr h
    · rcases h2.2 h with h | h
      · exact .inl (.inr h)
      · exact .inr h
 | .prod a b, k => by
  have h1 := opened_has s u a k
  have h2 := opened_has s u b k
  simp only [Ty.opened, Ty.has]
  refine ⟨?_, ?_⟩
  · rintro (h | h)
    · exact .inl (h1.1 h)
    · exact .inr (h2.1 h)
  · rintro (h | h)
    · rcases h1.2 h with h | h
      · exact .inl (.inl h)
      · exact .inr h
    · rcases h2.2 h with h | h
      · exact .inl (.inr h)
      · exact .inr h
 | .loop a, k => by
  simp only [Ty.opened, Ty.has]
  exact opened_has s u a (k + 1)
theorem unroll_has (s : List UInt8) (a : Ty) : (a.opened (.loop a) 0).has s ↔ a.has s := by
 have h := opened_has s (.loop a) a 0
 constructor
 · intro h1
   rcases h.2 h1 with h2 | h2
   · exact h2
   · exact h2
 · exact h.1
def Ty.empAt (x : Bool) : Ty -> Nat -> Bool
 | .zero, _ => true
 | .one, _ => false
 | .name _, _ => false
 | .bound j, k => if j = k then x else true
 | .sum a b, k => a.empAt x k && b.empAt x k
 | .prod a b, k => a.empAt x k || b.empAt x k
 | .loop a, k => a.empAt x (k + 1)
theorem empAt_true : ∀ (t : Ty) (k : Nat), t.empAt true k = t.emp
 | .zero, _ => rfl
 | .one, _ => rfl
 | .name _, _ => rfl
 | .bound j, k => by simp [Ty.empAt, Ty.emp]
 | .sum a b, k => by simp [Ty.empAt, Ty.emp, empAt_true a, empAt_true b]
 | .prod a b, k => by simp [Ty.empAt, Ty.emp, empAt_true a, empAt_true b]
 | .loop a, k => by simp [Ty.empAt, Ty.emp, empAt_true a]
theorem empAt_mono : ∀ (t : Ty) (k : Nat), t.empAt false k = true -> t.empAt true k = true
 | .zero, _, _ => rfl
 | .one, _, h => h
 | .name _, _, h => h
 | .bound j, k, _ => by simp [Ty.empAt]
 | .sum a b, k, h => by
  simp only [Ty.empAt, Bool.and_eq_true] at h ⊢
  exact ⟨empAt_mono a k h.1, empAt_mono b k h.2⟩
 | .prod a b, k, h => by
  simp only [Ty.empAt, Bool.or_eq_true] at h ⊢
  exact h.imp (empAt_mono a k) (empAt_mono b k)
 | .loop a, k, h => empAt_mono a (k + 1) h
theorem opened_emp (u : Ty) : ∀ (t : Ty) (k : Nat), (t.opened u k).emp = t.empAt u.emp k
 | .zero, _ => rfl
 | .one, _ => rfl
 | .name _, _ => rfl
 | .bound j, k => by
  simp only [Ty.opened, Ty.empAt]
  split <;> rfl
 | .sum a b, k => by simp only [Ty.opened, Ty.empAt, Ty.emp, opened_emp u a, opened_emp u b]
 | .prod a b, k => by simp only [Ty.opened, Ty.empAt, Ty.emp, opened_emp u a, opened_emp u b]
 | .loop a, k => by simp only [Ty.opened, Ty.empAt, Ty.emp, opened_emp u a]
theorem unroll_emp (a : Ty) : (a.opened (.loop a) 0).emp = a.emp := by
 rw [opened_emp]
 simp only [Ty.emp]
 cases h : a.emp with
 | true => rw [empAt_true]; exact h
 | false =>
  cases h2 : a.empAt false 0 with
  | false => rfl
  | true => rw [<- empAt_true a 0, empAt_mono a 0 h2] at h; cases h
end Go.Proofs.YtcgccdhmenobkaaDoor
namespace Go.Proofs.YtcgccdhmenobkaaDoor
open Go.RowKit
set_option linter.unusedVariables false
set_option linter.unusedSimpArgs false
theorem contains_any (ls : List (List UInt8)) (A : Option Addr) (c : Nat) (s : List UInt8) (w : World) (hl : ls.length <= 1000000) (h : SCells w A ls) :
 Calls Tryd.prog 90 #[.slice A ls.length c, .string (St s)] w fun e w' => e = .returned (.bool (decide (s ∈ ls))) /\ w' = w := by
 rcases h with rfl | ⟨g, o, rfl, h⟩
 · refine (Tryd.slices_Contains_string_empty A c (St s) w).mono ?_
   rintro e w' ⟨he, hw⟩
   exact ⟨by rw [he]; simp, hw⟩
 · refine (Tryd.slices_Contains_string g o ls.length c (ls.map St) (St s) w (by simp) (by omega) (fun j hj => ?_)).mono ?_
   · have hj' : j < ls.length := by simpa using hj
     rw [h j ls[j] (List.getElem?_eq_getElem hj')]
     simp [List.getD, hj']
   · rintro e w' ⟨he, hw⟩
     refine ⟨?_, hw⟩
     rw [he]
     congr 2
     rw [Bool.eq_iff_iff, Lib.containsS_iff, decide_eq_true_iff]
     rw [List.take_of_length_le (by simp)]
     constructor
     · intro h
       obtain ⟨x, hx, hxe⟩ := List.mem_map.1 h
       rwa [<- St_inj.1 hxe]
     · intro h
       exact List.mem_map.2 ⟨s, h, rfl⟩
theorem decDigits_decL (n : Nat) : Lib.decDigits n = decL n := by
 induction n using Nat.strongRecOn with
 | ind n ih =>
  rw [Lib.decDigits, decL]
  by_cases h : n < 10
  · rw [dif_pos h, if_pos h]
  · rw [dif_neg h, if_neg h, ih (n / 10) (by omega)]
theorem itoa_decL (n : Nat) : Lib.itoa (n : Int) = decL n := by
 unfold Lib.itoa
 rw [if_neg (by omega), <- decDigits_decL]
 rfl
abbrev TabB (B : Nat) (w : World) : Prop := Lib.TabBelow Tryd.prog B w "internal/strconv.uint64pow10" .u64 Lib.pow10Tab
theorem TabB.below {B : Nat} {w w1 : World} (h : TabB B w) (hb : Below B w w1) : TabB B w1 := fun w2 hb2 => h w2 (hb.trans hb2)
end Go.Proofs.YtcgccdhmenobkaaDoor
