/- Copies of lists of numbers: l00Own and slices.Clone. Conditions: lists no longer than 2^40. -/
import Derived.Test.YtpdfebalkkbpoaaDoorLInt64
import Derived.Test.YtpdfebalkkbpoaaDoorOwn
namespace Go.Proofs.YtpdfebalkkbpoaaDoor
set_option linter.unusedVariables false
open Go.RowKit

theorem own_form {w : World} {base e size n : Nat} {v : Value} {xs : List Value} (h : w.ownsRow base e size v n xs) : ∃ A c, v = .slice A n c := by
  rcases h.2 with ⟨rfl, rfl⟩ | ⟨g, cap, cur, rfl, _⟩
  · exact ⟨none, 0, rfl⟩
  · exact ⟨_, _, rfl⟩
theorem cells_one (xs : List Int) : ∀ u ∈ xs.flatMap intC, u.oneCell' = true := by
  intro u hu
  rw [List.mem_flatMap] at hu
  obtain ⟨x, _, hx⟩ := hu
  simp only [intC, List.mem_singleton] at hx
  subst hx; rfl

end Go.Proofs.YtpdfebalkkbpoaaDoor
