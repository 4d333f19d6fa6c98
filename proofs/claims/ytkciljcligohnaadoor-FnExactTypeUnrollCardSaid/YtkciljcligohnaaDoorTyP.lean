/- Types with names, pure: out of what is read, and into de Bruijn's form. -/
import Derived.Test.YtkciljcligohnaaDoorSVal2
namespace Go.Proofs.YtkciljcligohnaaDoor
open Go.RowKit
set_option linter.unusedVariables false
set_option linter.unusedSimpArgs false

def Tr.atom : Tr → List UInt8
  | .mk s _ => s

inductive NT where
  | zero | one
  | name (s : List UInt8)
  | sum (a b : NT)
  | prod (a b : NT)
  | loop (s : List UInt8) (a : NT)
  deriving DecidableEq

def NT.toTr : NT → Tr
  | .zero => .mk [48] []
  | .one => .mk [49] []
  | .name s => .mk s []
  | .sum a b => .mk [] [.mk [43] [], a.toTr, b.toTr]
  | .prod a b => .mk [] [.mk [42] [], a.toTr, b.toTr]
  | .loop s a => .mk [] [.mk [114, 101, 99] [], .mk s [], a.toTr]

/-- The number of atoms. -/
def NT.atoms : NT → Nat
  | .zero => 1
  | .one => 1
  | .name _ => 1
  | .sum a b => 1 + a.atoms + b.atoms
  | .prod a b => 1 + a.atoms + b.atoms
  | .loop _ a => 2 + a.atoms

/-- Names are ones. -/
def NT.ok : NT → Prop
  | .zero => True
  | .one => True
  | .name s => paramB s = true ∨ loopB s = true
  | .sum a b => a.ok ∧ b.ok
  | .prod a b => a.ok ∧ b.ok
  | .loop s a => loopB s = true ∧ a.ok

def tyAtom (s : List UInt8) (rest : Option NT) : Option NT :=
  if s = [48] then some .zero else if s = [49] then some .one else if paramB s = true then some (.name s) else if loopB s = true then some (.name s) else rest
def tyTwo (f : NT → NT → NT) (x y : Option NT) : Option NT := match x, y with
  | some x, some y => some (f x y)
  | _, _ => none
def tyThree (h n : List UInt8) (x y : Option NT) : Option NT :=
  if h = [43] then tyTwo .sum x y else if h = [42] then tyTwo .prod x y else if h = [114, 101, 99] then (if loopB n = true then y.map (.loop n) else none) else none
/-- The type of what is read. -/
def tyOf : Tr → Option NT
  | .mk s [.mk h _, a, b] => tyAtom s (tyThree h a.atom (tyOf a) (tyOf b))
  | .mk s _ => tyAtom s none

theorem tyTwo_some {f : NT → NT → NT} {x y : Option NT} {n : NT} (h : tyTwo f x y = some n) : ∃ a b, x = some a ∧ y = some b ∧ n = f a b := by
  unfold tyTwo at h
  split at h
  · rename_i a b
    simp at h
    exact ⟨a, b, rfl, rfl, h.symm⟩
  · cases h
theorem tyTwo_l (f : NT → NT → NT) (y : Option NT) : tyTwo f none y = none := by unfold tyTwo; cases y <;> rfl
theorem tyTwo_r (f : NT → NT → NT) (x : Option NT) : tyTwo f x none = none := by unfold tyTwo; cases x <;> rfl

theorem tyOf_zero (ps : List Tr) : tyOf (.mk [48] ps) = some .zero := by
  rcases ps with _ | ⟨⟨h, q⟩, _ | ⟨a, _ | ⟨b, _ | ⟨c, r⟩⟩⟩⟩ <;> simp [tyOf, tyAtom]
theorem tyOf_one (ps : List Tr) : tyOf (.mk [49] ps) = some .one := by
  rcases ps with _ | ⟨⟨h, q⟩, _ | ⟨a, _ | ⟨b, _ | ⟨c, r⟩⟩⟩⟩ <;> simp [tyOf, tyAtom]
theorem name_ne {s : List UInt8} (h : paramB s = true ∨ loopB s = true) : s ≠ [48] ∧ s ≠ [49] := by
  constructor <;> rintro rfl <;> revert h <;> decide
theorem tyOf_name {s : List UInt8} (h : paramB s = true ∨ loopB s = true) (ps : List Tr) : tyOf (.mk s ps) = some (.name s) := by
  obtain ⟨h1, h2⟩ := name_ne h
  have : tyAtom s = fun _ => some (.name s) := by
    funext rest
    unfold tyAtom
    rw [if_neg h1, if_neg h2]
    rcases h with h | h
    · rw [if_pos h]
    · by_cases hp : paramB s = true
      · rw [if_pos hp]
      · rw [if_neg hp, if_pos h]
  rcases ps with _ | ⟨⟨h, q⟩, _ | ⟨a, _ | ⟨b, _ | ⟨c, r⟩⟩⟩⟩ <;> simp [tyOf, this]
theorem tyAtom_no {s : List UInt8} (h1 : s ≠ [48]) (h2 : s ≠ [49]) (h3 : paramB s = false) (h4 : loopB s = false) (rest : Option NT) : tyAtom s rest = rest := by
  unfold tyAtom
  rw [if_neg h1, if_neg h2, if_neg (by rw [h3]; simp), if_neg (by rw [h4]; simp)]
theorem tyOf_three {s : List UInt8} (h1 : s ≠ [48]) (h2 : s ≠ [49]) (h3 : paramB s = false) (h4 : loopB s = false) (h : List UInt8) (q : List Tr) (a b : Tr) :
    tyOf (.mk s [.mk h q, a, b]) = tyThree h a.atom (tyOf a) (tyOf b) := by
  rw [tyOf, tyAtom_no h1 h2 h3 h4]
theorem tyOf_other {s : List UInt8} (h1 : s ≠ [48]) (h2 : s ≠ [49]) (h3 : paramB s = false) (h4 : loopB s = false) (ps : List Tr) (hp : ps.length ≠ 3) :
    tyOf (.mk s ps) = none := by
  rcases ps with _ | ⟨⟨h, q⟩, _ | ⟨a, _ | ⟨b, _ | ⟨c, r⟩⟩⟩⟩ 
  · exact tyAtom_no h1 h2 h3 h4 none
  · exact tyAtom_no h1 h2 h3 h4 none
  · exact tyAtom_no h1 h2 h3 h4 none
  · exact absurd rfl hp
  · exact tyAtom_no h1 h2 h3 h4 none

theorem nil_no : ([] : List UInt8) ≠ [48] ∧ ([] : List UInt8) ≠ [49] ∧ paramB [] = false ∧ loopB [] = false := ⟨by simp, by simp, rfl, rfl⟩

theorem tyAtom_some {s : List UInt8} {rest : Option NT} {n : NT} (h : tyAtom s rest = some n) (hr : rest = none) : (s = [48] ∧ n = .zero) ∨ (s = [49] ∧ n = .one) ∨ ((paramB s = true ∨ loopB s = true) ∧ n = .name s) := by
  unfold tyAtom at h
  subst hr
  split at h
  · simp at h; exact .inl ⟨by assumption, h.symm⟩
  · split at h
    · simp at h; exact .inr (.inl ⟨by assumption, h.symm⟩)
    · split at h
      · simp at h; exact .inr (.inr ⟨.inl (by assumption), h.symm⟩)
      · split at h
        · simp at h; exact .inr (.inr ⟨.inr (by assumption), h.symm⟩)
        · cases h

/-- What is a type is its text's tree, its names are ones. -/
theorem tyOf_toTr : ∀ (t : Tr) (n : NT), OkT t → tyOf t = some n → t = n.toTr ∧ n.ok
  | .mk s ps, n, hok, hv => by
    by_cases hs : s = []
    · subst hs
      obtain ⟨h1, h2, h3, h4⟩ := nil_no
      rcases ps with _ | ⟨⟨h, q⟩, _ | ⟨a, _ | ⟨b, _ | ⟨c, r⟩⟩⟩⟩
      · rw [tyOf_other h1 h2 h3 h4 _ (by simp)] at hv; cases hv
      · rw [tyOf_other h1 h2 h3 h4 _ (by simp)] at hv; cases hv
      · rw [tyOf_other h1 h2 h3 h4 _ (by simp)] at hv; cases hv
      · rw [tyOf_three h1 h2 h3 h4] at hv
        obtain ⟨_, hh, ha, hb, _⟩ := hok
        have hq : h ≠ [] → q = [] := hh.1
        unfold tyThree at hv
        split at hv
        · rename_i he
          obtain ⟨x, y, hx, hy, rfl⟩ := tyTwo_some hv
          obtain ⟨e1, o1⟩ := tyOf_toTr a x ha hx
          obtain ⟨e2, o2⟩ := tyOf_toTr b y hb hy
          exact ⟨by rw [NT.toTr, ← e1, ← e2, hq (by rw [he]; simp), he], o1, o2⟩
        · split at hv
          · rename_i he
            obtain ⟨x, y, hx, hy, rfl⟩ := tyTwo_some hv
            obtain ⟨e1, o1⟩ := tyOf_toTr a x ha hx
            obtain ⟨e2, o2⟩ := tyOf_toTr b y hb hy
            exact ⟨by rw [NT.toTr, ← e1, ← e2, hq (by rw [he]; simp), he], o1, o2⟩
          · split at hv
            · rename_i he
              split at hv
              · rename_i hl
                obtain ⟨n1, q1⟩ := a
                cases hy : tyOf b with
                | none => rw [hy] at hv; simp at hv
                | some y =>
                  rw [hy] at hv
                  simp [Tr.atom] at hv hl
                  subst hv
                  obtain ⟨e2, o2⟩ := tyOf_toTr b y hb hy
                  have hq1 : q1 = [] := ha.1 (by rintro rfl; revert hl; decide)
                  exact ⟨by rw [NT.toTr, ← e2, hq (by rw [he]; simp), he, hq1], hl, o2⟩
              · cases hv
            · cases hv
      · rw [tyOf_other h1 h2 h3 h4 _ (by simp)] at hv; cases hv
    · obtain rfl : ps = [] := hok.1 hs
      have hv' : tyAtom s none = some n := hv
      rcases tyAtom_some hv' rfl with ⟨rfl, rfl⟩ | ⟨rfl, rfl⟩ | ⟨h, rfl⟩
      · exact ⟨rfl, trivial⟩
      · exact ⟨rfl, trivial⟩
      · exact ⟨rfl, h⟩

/-- Where a name is bound. -/
def look (s : List UInt8) : List (List UInt8) → Option Nat
  | [] => none
  | e :: r => if e = s then some 0 else (look s r).map (· + 1)
/-- A type in de Bruijn's form, under the names bound around (the innermost first). -/
def NT.db : NT → List (List UInt8) → Ty
  | .zero, _ => .zero
  | .one, _ => .one
  | .name s, env => if paramB s = true then .name s else (match look s env with | some k => .bound k | none => .name s)
  | .sum a b, env => .sum (a.db env) (b.db env)
  | .prod a b, env => .prod (a.db env) (b.db env)
  | .loop s a, env => .loop (a.db (s :: env))

def Ty.atoms : Ty → Nat
  | .sum a b => 1 + a.atoms + b.atoms
  | .prod a b => 1 + a.atoms + b.atoms
  | .loop a => 2 + a.atoms
  | _ => 1
theorem NT.db_atoms : ∀ (n : NT) (env : List (List UInt8)), (n.db env).atoms = n.atoms
  | .zero, _ => rfl
  | .one, _ => rfl
  | .name s, env => by
    simp only [NT.db, NT.atoms]
    split
    · rfl
    · split <;> rfl
  | .sum a b, env => by simp only [NT.db, Ty.atoms, NT.atoms, db_atoms a env, db_atoms b env]
  | .prod a b, env => by simp only [NT.db, Ty.atoms, NT.atoms, db_atoms a env, db_atoms b env]
  | .loop s a, env => by simp only [NT.db, Ty.atoms, NT.atoms, db_atoms a (s :: env)]

/-- A type's text. -/
def rdTy (l : List UInt8) : Option NT := match rdText l with
  | none => none
  | some t => match tyOf t with
    | none => none
    | some n => if 400 < n.atoms then none else some n

end Go.Proofs.YtkciljcligohnaaDoor
