/- Seats needed by groups: what the reference and the program compute. Conditions: those of Groups. -/
import Derived.Test.YteeafdbfimdddaaGroups
import Derived.Test.YteeafdbfimdddaaLInt64
namespace Go.Proofs.Yteeafdbfimdddaa
set_option linter.unusedVariables false
open Go.RowKit

theorem groups_persons {xs : List GroupD} (h : groupsB xs = true) : ∀ x ∈ xs, 1 ≤ x.Persons ∧ x.Persons ≤ 40 ∧ -1 ≤ x.Wish ∧ x.Wish ≤ 9 := by
  intro x hx
  simp only [groupsB, Bool.and_eq_true] at h
  have h1 := allGood_ok h.2 x hx
  simp only [GroupD.okB, Bool.and_eq_true] at h1
  have h2 := inB_true.1 h1.1.2
  have h3 := inB_true.1 h1.2
  omega
theorem groups_len {xs : List GroupD} (h : groupsB xs = true) : xs.length ≤ 12 := by
  simp only [groupsB, Bool.and_eq_true, decide_eq_true_eq] at h
  exact h.1
theorem groups_cap {xs : List GroupD} (h : groupsB xs = true) : ∀ x ∈ xs, 0 ≤ x.Persons ∧ x.Persons ≤ 1048576 := fun x hx => by have := groups_persons h x hx; omega
def needed1 (xs : List GroupD) : Int := if groupsB xs then sumPersons xs else 0
def needed2 (xs : List GroupD) : Int := if groupsB xs then 0 else 1

end Go.Proofs.Yteeafdbfimdddaa
