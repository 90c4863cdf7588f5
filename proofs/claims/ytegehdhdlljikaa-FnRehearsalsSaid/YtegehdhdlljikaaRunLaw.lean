/- Bounds of what DoneRemark answers, for its law. Conditions: none. -/
import Derived.Test.YtegehdhdlljikaaDoneFns
namespace Go.Proofs.Ytegehdhdlljikaa
set_option linter.unusedVariables false

theorem OfL.sm {es : List RunE} {xs : List RunD} (h : OfL es xs) (hs : ∀ x ∈ xs, x.small 1048576) : SmE es := fun e he => by
  obtain ⟨i, hi, rfl⟩ := List.getElem_of_mem he
  have hl := h.len
  have ho := h.at_ i hi (by omega)
  have := hs _ (List.getElem_mem (show i < xs.length by omega))
  simp only [RunD.small] at this
  rw [ho.cn, ho.rn]; omega
theorem doneZ_sm (xs : List RunD) (m : Int) : ∀ x ∈ doneZ xs m, x.small 1048576 := by
  cases hv : runsB xs with
  | true => exact (doneZ_small (runs_small hv)).2
  | false => rw [(done_bad hv).1]; intro x hx; simp at hx
theorem doneZ_len (xs : List RunD) (m : Int) : (doneZ xs m).length ≤ 1048576 := by
  cases hv : runsB xs with
  | true => have := (doneZ_small (m := m) (runs_small hv)).1; have := (runs_parts hv).1; omega
  | false => rw [(done_bad hv).1]; simp
end Go.Proofs.Ytegehdhdlljikaa
