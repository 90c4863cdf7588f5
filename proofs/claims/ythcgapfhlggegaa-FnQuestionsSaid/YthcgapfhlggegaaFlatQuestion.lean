/- The copies, sizes and comparisons of a list of Question. Conditions: strings no longer than 2^63 - 1 bytes, lists no longer than 2^40. -/
import Derived.Test.YthcgapfhlggegaaProg
import Derived.Test.YthcgapfhlggegaaBase
import Derived.Lib.Strings
import Derived.Test.YthcgapfhlggegaaOpen
namespace Go.Proofs.Ythcgapfhlggegaa
set_option linter.unusedVariables false
open Go.RowKit Go.ChangeShapes

structure QuestionD where
  Id : ByteArray
  Arrived : Int
  Length : Int
  Priority : Int
def QuestionD.cells (x : QuestionD) : List Value := [.string x.Id, .int .i64 x.Arrived, .int .i64 x.Length, .int .i64 x.Priority]
theorem QuestionD.cells_len (x : QuestionD) : x.cells.length = 4 := rfl
def QuestionD.wf (x : QuestionD) : Prop := x.Id.size ≤ maxLen ∧ (-9223372036854775808 ≤ x.Arrived ∧ x.Arrived ≤ 9223372036854775807) ∧ (-9223372036854775808 ≤ x.Length ∧ x.Length ≤ 9223372036854775807) ∧ (-9223372036854775808 ≤ x.Priority ∧ x.Priority ≤ 9223372036854775807)
theorem QuestionD.rd {w : World} {A : Option Addr} {xs : List QuestionD} (h : Rd QuestionD.cells 4 w A xs) {i : Nat} {x : QuestionD} (hx : xs[i]? = some x) :
    ∃ b off, A = some ⟨b, off, none⟩ ∧ b < w.heap.size ∧ w.cell? ⟨b, off + i * 4, none⟩ = some (.string x.Id) ∧ w.cell? ⟨b, off + i * 4 + 1, none⟩ = some (.int .i64 x.Arrived) ∧ w.cell? ⟨b, off + i * 4 + 2, none⟩ = some (.int .i64 x.Length) ∧ w.cell? ⟨b, off + i * 4 + 3, none⟩ = some (.int .i64 x.Priority) := by
  obtain ⟨b, off, e, hb, hc⟩ := h i x hx
  exact ⟨b, off, e, hb, hc 0 _ rfl, hc 1 _ rfl, hc 2 _ rfl, hc 3 _ rfl⟩

end Go.Proofs.Ythcgapfhlggegaa
