/- Marks written into rows of runs of the call's own, and found there. Conditions: lists no longer than 2^20. -/
import Derived.Test.YtegehdhdlljikaaRunOwn
namespace Go.Proofs.Ytegehdhdlljikaa
set_option linter.unusedVariables false
open Go.RowKit

section
variable {w w' : World} {base i g n c : Nat} {v : Value} {es : List RunE} {E : RunE}
theorem RunRow.putD' {u : Value} (h : RunRow w base (.slice (some ⟨g, 0, none⟩) n c) es) (hE : es[i]? = some E) : RunRow (w.setCell ⟨g, i * 3, none⟩ u) base (.slice (some ⟨g, 0, none⟩) n c) (es.set i { E with day := u }) := by
  obtain ⟨hi, rfl⟩ := List.getElem?_eq_some_iff.1 hE
  exact h.putD hi
theorem RunRow.putC' {L : List Value} (h : RunRow w base v es) (hE : es[i]? = some E) (hg : w.grownBy w' E.cv.ownBlock) (ho : w'.ownsRow base 9 1 E.cv E.cn L) : RunRow w' base v (es.set i { E with cl := L }) := by
  obtain ⟨hi, rfl⟩ := List.getElem?_eq_some_iff.1 hE
  exact h.putC hi hg ho
theorem RunRow.putR' {L : List Value} (h : RunRow w base v es) (hE : es[i]? = some E) (hg : w.grownBy w' E.rv.ownBlock) (ho : w'.ownsRow base 28 4 E.rv E.rn L) : RunRow w' base v (es.set i { E with rl := L }) := by
  obtain ⟨hi, rfl⟩ := List.getElem?_eq_some_iff.1 hE
  exact h.putR hi hg ho
theorem RunRow.cells' (h : RunRow w base (.slice (some ⟨g, 0, none⟩) n c) es) (hE : es[i]? = some E) : base ≤ g ∧ g < w.heap.size ∧ w.cell? ⟨g, i * 3, none⟩ = some E.day ∧ w.cell? ⟨g, i * 3 + 1, none⟩ = some E.cv ∧ w.cell? ⟨g, i * 3 + 2, none⟩ = some E.rv ∧ (∀ j, w.frozen? ⟨g, j, none⟩ = false) := by
  obtain ⟨hi, rfl⟩ := List.getElem?_eq_some_iff.1 hE
  obtain ⟨g', e, r⟩ := h.cell i hi
  injection e with e
  injection e with e
  subst e
  exact r
theorem RunRow.form {A : Option Addr} (h : RunRow w base (.slice A n c) es) (hn : 0 < n) : n = es.length ∧ ∃ g, A = some ⟨g, 0, none⟩ := by
  rcases h.row.2 with ⟨hv, h0⟩ | ⟨g, _, _, hv, _⟩
  · injection hv with _ hv; omega
  · injection hv with h1 h2; exact ⟨h2, g, h1⟩
theorem set_at (hE : es[i]? = some E) (F : RunE) : (es.set i F)[i]? = some F := by
  obtain ⟨hi, _⟩ := List.getElem?_eq_some_iff.1 hE
  rw [List.getElem?_set_self hi]
theorem take_set {F : RunE} (hi : i < es.length) : (es.set i F).take (i + 1) = es.take i ++ [F] := by
  rw [List.take_succ_eq_append_getElem (by simpa using hi), List.getElem_set_self, List.take_set_of_le (by omega)]
end
def SmE (es : List RunE) : Prop := ∀ e ∈ es, e.cn ≤ 1048576 ∧ e.rn ≤ 1048576
end Go.Proofs.Ytegehdhdlljikaa
