/- The reference's derivative, in plain Lean. -/
import Derived.Test.YtpokompplapkhaaGreatDoorDifP
namespace Go.Proofs.YtpokompplapkhaaGreatDoor
open Go.RowKit
set_option linter.unusedVariables false
set_option linter.unusedSimpArgs false

/-- What l3Deriv gives. -/
def DRes (n : NT) (x : List UInt8) (out : NT) (ok : Bool) : Prop :=
  out.ok3 ∧ out.atoms ≤ 1000 * n.atoms ∧ (ok = true → Der (n.db []) x (some (out.db []))) ∧ (ok = false → Der (n.db []) x none)

theorem put_same (l : List UInt8) : ∀ (t : Ty), t.put l (.name l) = t
  | .zero => rfl
  | .one => rfl
  | .bound _ => rfl
  | .name s => by
    simp only [Ty.put]
    split
    · rename_i h; rw [h]
    · rfl
  | .sum a b => by simp only [Ty.put, put_same l a, put_same l b]
  | .prod a b => by simp only [Ty.put, put_same l a, put_same l b]
  | .loop a => by simp only [Ty.put, put_same l a]
theorem db_no (s : List UInt8) (hs : paramB s = false) : ∀ (n : NT) (env : List (List UInt8)), s ∈ env → ¬ (n.db env).has s
  | .zero, _, _ => fun h => h
  | .one, _, _ => fun h => h
  | .name x, env, he => by
    simp only [NT.db]
    split
    · rename_i hp
      intro h
      have h : x = s := h
      rw [h, hs] at hp
      cases hp
    · split
      · exact fun h => h
      · rename_i hl
        intro h
        have h : x = s := h
        subst h
        exact look_none.1 hl he
  | .sum a b, env, he => fun h => h.elim (db_no s hs a env he) (db_no s hs b env he)
  | .prod a b, env, he => fun h => h.elim (db_no s hs a env he) (db_no s hs b env he)
  | .loop x a, env, he => fun h => db_no s hs a (x :: env) (List.mem_cons_of_mem _ he) h
theorem in_db (l : List UInt8) (hl : paramB l = false) (b : NT) : b.db [] = (b.db [l]).opened (.name l) 0 := by
  have := opened_db l hl (.name l) b []
  rw [put_same] at this
  exact this

theorem DRes.zero_ (x : List UInt8) : DRes .zero x .zero true := ⟨trivial, by simp [NT.atoms], fun _ => .zero _, (fun h => nomatch h)⟩
theorem DRes.one_ (x : List UInt8) : DRes .one x .zero true := ⟨trivial, by simp [NT.atoms], fun _ => .one _, (fun h => nomatch h)⟩
theorem name_db0 (s : List UInt8) : (NT.name s).db [] = .name s := by
  simp only [NT.db, look]
  split <;> rfl
theorem DRes.hit_ (x : List UInt8) : DRes (.name x) x .one true := ⟨trivial, by simp [NT.atoms], fun _ => by rw [name_db0]; exact .hit _, (fun h => nomatch h)⟩
theorem DRes.miss_ {s x : List UInt8} (h : s ≠ x) : DRes (.name s) x .zero true := ⟨trivial, by simp [NT.atoms], fun _ => by rw [name_db0]; exact .miss _ _ h, (fun h => nomatch h)⟩
theorem DRes.der {n : NT} {x : List UInt8} {out : NT} {ok : Bool} (h : DRes n x out ok) : Der (n.db []) x (if ok = true then some (out.db []) else none) := by
  cases ok with
  | true => rw [if_pos rfl]; exact h.2.2.1 rfl
  | false => rw [if_neg (by simp)]; exact h.2.2.2 rfl
theorem chkO_if (R : Ty) : chkO (some R) = if R.atoms ≤ 400 then some R else none := rfl
theorem DRes.sum_ {a b : NT} {x : List UInt8} {oa ob : NT} {p q : Bool} (ha : DRes a x oa p) (hb : DRes b x ob q) : DRes (.sum a b) x (.sum oa ob) (p && (q && decide ((NT.sum oa ob).atoms ≤ 400))) := by
  have hd := Der.sum _ _ _ _ _ ha.der hb.der
  refine ⟨⟨ha.1, hb.1⟩, by have := ha.2.1; have := hb.2.1; simp only [NT.atoms]; omega, fun h => ?_, fun h => ?_⟩
  · simp only [Bool.and_eq_true, decide_eq_true_eq] at h
    obtain ⟨rfl, rfl, h⟩ := h
    rw [if_pos rfl, if_pos rfl] at hd
    have e : chkO (sumO (some (oa.db [])) (some (ob.db []))) = some ((NT.sum oa ob).db []) := by
      rw [show sumO (some (oa.db [])) (some (ob.db [])) = some ((NT.sum oa ob).db []) from rfl, chkO_if, if_pos (by rw [NT.db_atoms]; exact h)]
    rw [e] at hd
    exact hd
  · have e : chkO (sumO (if p = true then some (oa.db []) else none) (if q = true then some (ob.db []) else none)) = none := by
      cases p with
      | false => rfl
      | true =>
        cases q with
        | false => rfl
        | true =>
          simp only [Bool.true_and, decide_eq_false_iff_not] at h
          rw [if_pos rfl, if_pos rfl, show sumO (some (oa.db [])) (some (ob.db [])) = some ((NT.sum oa ob).db []) from rfl, chkO_if, if_neg (by rw [NT.db_atoms]; exact h)]
    rw [e] at hd
    exact hd
theorem DRes.prod_ {a b : NT} {x : List UInt8} {oa ob : NT} {p q : Bool} (hn : (NT.prod a b).ok3) (hat : (NT.prod a b).atoms ≤ 400) (ha : DRes a x oa p) (hb : DRes b x ob q) : DRes (.prod a b) x (.sum (.prod oa b) (.prod a ob)) (p && (q && decide ((NT.sum (.prod oa b) (.prod a ob)).atoms ≤ 400))) := by
  have hd := Der.prod _ _ _ _ _ ha.der hb.der
  refine ⟨⟨⟨ha.1, hn.2⟩, ⟨hn.1, hb.1⟩⟩, by have := ha.2.1; have := hb.2.1; simp only [NT.atoms] at *; omega, fun h => ?_, fun h => ?_⟩
  · simp only [Bool.and_eq_true, decide_eq_true_eq] at h
    obtain ⟨rfl, rfl, h⟩ := h
    rw [if_pos rfl, if_pos rfl] at hd
    have e : chkO (prodO (a.db []) (b.db []) (some (oa.db [])) (some (ob.db []))) = some ((NT.sum (.prod oa b) (.prod a ob)).db []) := by
      rw [show prodO (a.db []) (b.db []) (some (oa.db [])) (some (ob.db [])) = some ((NT.sum (.prod oa b) (.prod a ob)).db []) from rfl, chkO_if, if_pos (by rw [NT.db_atoms]; exact h)]
    rw [e] at hd
    exact hd
  · have e : chkO (prodO (a.db []) (b.db []) (if p = true then some (oa.db []) else none) (if q = true then some (ob.db []) else none)) = none := by
      cases p with
      | false => rfl
      | true =>
        cases q with
        | false => rfl
        | true =>
          simp only [Bool.true_and, decide_eq_false_iff_not] at h
          rw [if_pos rfl, if_pos rfl, show prodO (a.db []) (b.db []) (some (oa.db [])) (some (ob.db [])) = some ((NT.sum (.prod oa b) (.prod a ob)).db []) from rfl, chkO_if, if_neg (by rw [NT.db_atoms]; exact h)]
    rw [e] at hd
    exact hd

/-- A rec set apart from a name. -/
theorem apart_rec (s : List UInt8) (a : NT) (x : List UInt8) (hn : (NT.loop s a).ok3) (hat : (NT.loop s a).atoms ≤ 400) : ∃ l b,
    ((NT.loop s a).ren ((NT.loop s a).names ++ frees [.name x]) [] 0).1 = .loop l b ∧ (NT.loop l b).ok3 ∧ (NT.loop l b).atoms = (NT.loop s a).atoms ∧ l ≠ x ∧ (NT.loop s a).db [] = .loop (b.db [l]) ∧ paramB l = false ∧ ¬ (b.db [l]).has l := by
  obtain ⟨F, hF⟩ : ∃ F, F = (NT.loop s a).names ++ frees [.name x] := ⟨_, rfl⟩
  have hfl : F.length ≤ 401 := by
    have := names_len (NT.loop s a)
    have h1 : (frees [NT.name x]).length = 1 := by simp [frees, NT.names, NT.fr]
    rw [hF, List.length_append]
    omega
  have h3 := ren_ok3 F (NT.loop s a) [] 0 hn (by simp) (by
    have : (NT.loop s a).atoms * (F.length + 1) ≤ 400 * 402 := Nat.mul_le_mul hat (by omega)
    omega)
  have hdb := ren_db F (NT.loop s a) [] 0 hn ⟨by simp, by simp⟩ (cov_own _ _ fun e he => by rw [hF]; exact List.mem_append_left _ he)
  have hx : x ∈ F := by rw [hF]; simp [frees, NT.names, NT.fr]
  rw [← hF]
  refine ⟨tN (freshN F 0), (a.ren F [(s, tN (freshN F 0))] (freshN F 0 + 1)).1, rfl, h3, ren_atoms F (NT.loop s a) [] 0, fun he => freshN_not F 0 (by rw [he]; exact hx), hdb.symm, tN_param _, db_no _ (tN_param _) _ _ (List.mem_singleton.2 rfl)⟩
theorem DRes.apart_no {n : NT} {x l : List UInt8} {b oa ob : NT} {p q : Bool} (hok : (NT.loop l b).ok3) (hat : (NT.loop l b).atoms = n.atoms) (hlx : l ≠ x) (hdb : n.db [] = .loop (b.db [l])) (hlp : paramB l = false) (hla : ¬ (b.db [l]).has l)
    (hc : DRes b x oa p) (hd : DRes b l ob q) (h : (p && q) = false) : DRes n x (.loop l b) false := by
  have h1 := hc.der
  have h2 := hd.der
  rw [in_db l hlp b] at h1 h2
  have hD := Der.loop _ _ l _ _ hlx hla h1 h2
  refine ⟨hok, by omega, (fun h => nomatch h), fun _ => ?_⟩
  rw [hdb]
  have e : chkO (loopO l (.loop (b.db [l])) (if p = true then some (oa.db []) else none) (if q = true then some (ob.db []) else none)) = none := by
    cases p with
    | false => rfl
    | true =>
      cases q with
      | false => rfl
      | true => cases h
  rw [e] at hD
  exact hD
theorem DRes.rec_ {n : NT} {x l : List UInt8} {b oa ob : NT} (hlx : l ≠ x) (hdb : n.db [] = .loop (b.db [l])) (hlp : paramB l = false) (hla : ¬ (b.db [l]).has l)
    (hc : DRes b x oa true) (hd : DRes b l ob true) : Der (n.db []) x (chkO (some (.loop (.sum ((oa.db []).put l (n.db [])) (.prod ((ob.db []).put l (n.db [])) (.bound 0)))))) ∧ oa.atoms ≤ 400 ∧ ob.atoms ≤ 400 := by
  have h1 := hc.2.2.1 rfl
  have h2 := hd.2.2.1 rfl
  refine ⟨?_, ?_, ?_⟩
  · rw [in_db l hlp b] at h1 h2
    have hD := Der.loop _ _ l _ _ hlx hla h1 h2
    rw [hdb]
    exact hD
  · have := h1.atoms _ rfl
    rw [NT.db_atoms] at this
    exact this
  · have := h2.atoms _ rfl
    rw [NT.db_atoms] at this
    exact this
/-- One of the two put in is too great. -/
theorem DRes.rec_no {n : NT} {x l : List UInt8} {b oa ob : NT} (hok : (NT.loop l b).ok3) (hat : (NT.loop l b).atoms = n.atoms) (hlx : l ≠ x) (hdb : n.db [] = .loop (b.db [l])) (hlp : paramB l = false) (hla : ¬ (b.db [l]).has l)
    (hc : DRes b x oa true) (hd : DRes b l ob true) (h : (fitsN l (.loop l b) oa && fitsN l (.loop l b) ob) = false) : DRes n x (.loop l b) false := by
  obtain ⟨hD, h1, h2⟩ := DRes.rec_ hlx hdb hlp hla hc hd
  refine ⟨hok, by omega, (fun h => nomatch h), fun _ => ?_⟩
  have hT : (NT.loop l b).db [] = n.db [] := hdb.symm
  rw [fits_put l _ _ hc.1, fits_put l _ _ hd.1, hT] at h
  have e : chkO (some (Ty.loop (.sum ((oa.db []).put l (n.db [])) (.prod ((ob.db []).put l (n.db [])) (.bound 0))))) = none := by
    rw [chkO_if, if_neg]
    intro hle
    simp only [Ty.atoms] at hle
    have k1 : ((oa.db []).put l (n.db [])).atoms ≤ 400 := by omega
    have k2 : ((ob.db []).put l (n.db [])).atoms ≤ 400 := by omega
    rw [decide_eq_true k1, decide_eq_true k2] at h
    cases h
  rw [e] at hD
  exact hD
theorem DRes.rec_yes {n : NT} {x l : List UInt8} {b oa ob : NT} (hn : n.ok3) (hna : n.atoms ≤ 400) (hok : (NT.loop l b).ok3) (hat : (NT.loop l b).atoms = n.atoms) (hlx : l ≠ x) (hdb : n.db [] = .loop (b.db [l])) (hlp : paramB l = false) (hla : ¬ (b.db [l]).has l)
    (hc : DRes b x oa true) (hd : DRes b l ob true) (h1 : fitsN l (.loop l b) oa = true) (h2 : fitsN l (.loop l b) ob = true) :
    ∀ (c d : NT) (F : List (List UInt8)) (K : Nat), c = subN l (.loop l b) oa → d = subN l (.loop l b) ob → F = c.fr [] (d.fr [] []) → tN K ∉ F → K < 100000000 →
    (c.ok3 ∧ d.ok3 ∧ c.atoms ≤ 400 ∧ d.atoms ≤ 400) ∧ DRes n x (.loop (tN K) (.sum c (.prod d (.name (tN K))))) (decide ((NT.loop (tN K) (.sum c (.prod d (.name (tN K))))).atoms ≤ 400)) := by
  intro c d F K hcd hdd hF hK hKb
  obtain ⟨hD, k1, k2⟩ := DRes.rec_ hlx hdb hlp hla hc hd
  have hT : (NT.loop l b).db [] = n.db [] := hdb.symm
  have hfl : (frees [NT.loop l b, .name l]).length ≤ 500 := by
    rw [frees_two, List.length_append]
    have := names_len (NT.loop l b)
    simp
    omega
  have c3 : c.ok3 := by rw [hcd]; exact subN_ok3 l _ _ hc.1 hok k1 hfl
  have d3 : d.ok3 := by rw [hdd]; exact subN_ok3 l _ _ hd.1 hok k2 hfl
  have cdb : c.db [] = (oa.db []).put l (n.db []) := by rw [hcd, subN_db l _ _ hc.1, hT]
  have ddb : d.db [] = (ob.db []).put l (n.db []) := by rw [hdd, subN_db l _ _ hd.1, hT]
  rw [fits_put l _ _ hc.1, hT, ← cdb, NT.db_atoms, decide_eq_true_eq] at h1
  rw [fits_put l _ _ hd.1, hT, ← ddb, NT.db_atoms, decide_eq_true_eq] at h2
  have ccov : c.cov F [] := fr_cov F c [] [] (d.fr [] []) (fun s h => h) fun s hs => by rw [hF]; exact hs
  have dcov : d.cov F [] := fr_cov F d [] [] [] (fun s h => h) fun s hs => by rw [hF]; exact fr_mono c [] _ s hs
  have hKn := tN_ok K hKb
  have e1 : c.db [tN K] = c.db [] := db_far F c [] [tN K] ccov (by simpa using hK)
  have e2 : d.db [tN K] = d.db [] := db_far F d [] [tN K] dcov (by simpa using hK)
  have e3 : (NT.name (tN K)).db [tN K] = .bound 0 := by
    simp only [NT.db]
    rw [tN_param, if_neg (by simp)]
    simp [look]
  have hout : (NT.loop (tN K) (.sum c (.prod d (.name (tN K))))).db [] = .loop (.sum (c.db []) (.prod (d.db []) (.bound 0))) := by
    have : (NT.loop (tN K) (.sum c (.prod d (.name (tN K))))).db [] = .loop (.sum (c.db [tN K]) (.prod (d.db [tN K]) ((NT.name (tN K)).db [tN K]))) := rfl
    rw [this, e1, e2, e3]
  have hpos := atoms_pos n
  refine ⟨⟨c3, d3, h1, h2⟩, ⟨⟨hKn, tN_param K⟩, c3, d3, hKn⟩, by simp only [NT.atoms]; omega, fun h => ?_, fun h => ?_⟩
  · have h := of_decide_eq_true h
    rw [← NT.db_atoms _ [], hout] at h
    rw [← cdb, ← ddb, chkO_if, if_pos h] at hD
    rw [hout]
    exact hD
  · have h := of_decide_eq_false h
    rw [← NT.db_atoms _ [], hout] at h
    rw [← cdb, ← ddb, chkO_if, if_neg h] at hD
    exact hD

end Go.Proofs.YtpokompplapkhaaGreatDoor
