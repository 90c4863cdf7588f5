/- The copies, sizes and comparisons of a list of Skip. Conditions: strings no longer than 2^63 - 1 bytes, lists no longer than 2^40. -/
import Derived.Test.YtmilgbmkhbjjaaaProg
import Derived.Test.YtmilgbmkhbjjaaaBase
import Derived.Lib.Strings
import Derived.Test.YtmilgbmkhbjjaaaOpen
namespace Go.Proofs.Ytmilgbmkhbjjaaa
set_option linter.unusedVariables false
open Go.RowKit Go.ChangeShapes

structure SkipD where
  From : Int
  Length : Int
  Loss : Int
def SkipD.cells (x : SkipD) : List Value := [.int .i64 x.From, .int .i64 x.Length, .int .i64 x.Loss]
theorem SkipD.cells_len (x : SkipD) : x.cells.length = 3 := rfl
def SkipD.wf (x : SkipD) : Prop := (-9223372036854775808 ≤ x.From ∧ x.From ≤ 9223372036854775807) ∧ (-9223372036854775808 ≤ x.Length ∧ x.Length ≤ 9223372036854775807) ∧ (-9223372036854775808 ≤ x.Loss ∧ x.Loss ≤ 9223372036854775807)
theorem SkipD.rd {w : World} {A : Option Addr} {xs : List SkipD} (h : Rd SkipD.cells 3 w A xs) {i : Nat} {x : SkipD} (hx : xs[i]? = some x) :
    ∃ b off, A = some ⟨b, off, none⟩ ∧ b < w.heap.size ∧ w.cell? ⟨b, off + i * 3, none⟩ = some (.int .i64 x.From) ∧ w.cell? ⟨b, off + i * 3 + 1, none⟩ = some (.int .i64 x.Length) ∧ w.cell? ⟨b, off + i * 3 + 2, none⟩ = some (.int .i64 x.Loss) := by
  obtain ⟨b, off, e, hb, hc⟩ := h i x hx
  exact ⟨b, off, e, hb, hc 0 _ rfl, hc 1 _ rfl, hc 2 _ rfl⟩

end Go.Proofs.Ytmilgbmkhbjjaaa
