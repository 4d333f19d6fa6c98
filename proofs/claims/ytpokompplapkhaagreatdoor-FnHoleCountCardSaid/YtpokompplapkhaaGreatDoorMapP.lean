/- Changes of elements by numbers: the plain law. -/
import Derived.Test.YtpokompplapkhaaGreatDoorNB
import Derived.Test.YtpokompplapkhaaGreatDoorMF
namespace Go.Proofs.YtpokompplapkhaaGreatDoor
open Go.RowKit
set_option linter.unusedVariables false
set_option linter.unusedSimpArgs false
theorem labs_ok : ∀ (v : V) (env : List Ty) (t : Ty), v.ok -> ∀ p ∈ v.labs env t, elemB p.2 = true := by
 intro v
 induction v with
 | u => intro env t h p hp; cases t <;> cases hp
 | el s =>
  intro env t h p hp
  cases t with
  | name x => simp only [V.labs, List.mem_singleton] at hp; subst hp; exact h
  | _ => cases hp
 | l v ih => intro env t h p hp; cases t <;> first | exact ih _ _ h p hp | cases hp
 | r v ih => intro env t h p hp; cases t <;> first | exact ih _ _ h p hp | cases hp
 | p v w ih ih2 =>
  intro env t h p hp
  cases t with
  | prod a b =>
   simp only [V.labs, List.mem_append] at hp
   rcases hp with hp | hp
   · exact ih _ _ h.1 p hp
   · exact ih2 _ _ h.2 p hp
  | _ => cases hp
 | f v ih =>
  intro env t h p hp
  cases t with
  | loop a => exact ih _ _ h p hp
  | bound k =>
   simp only [V.labs] at hp
   split at hp
   · exact ih _ _ h p hp
   · cases hp
  | _ => cases hp
end Go.Proofs.YtpokompplapkhaaGreatDoor

