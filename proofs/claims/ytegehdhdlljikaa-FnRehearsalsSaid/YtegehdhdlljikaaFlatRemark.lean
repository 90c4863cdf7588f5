/- The copies, sizes and comparisons of a list of Remark. Conditions: strings no longer than 2^63 - 1 bytes, lists no longer than 2^40. -/
import Derived.Test.YtegehdhdlljikaaProg
import Derived.Test.YtegehdhdlljikaaBase
import Derived.Lib.Strings
import Derived.Test.YtegehdhdlljikaaOpen
namespace Go.Proofs.Ytegehdhdlljikaa
set_option linter.unusedVariables false
open Go.RowKit Go.ChangeShapes

structure RemarkD where
  Number : Int
  Who : ByteArray
  Cue : ByteArray
  Done : Bool
def RemarkD.cells (x : RemarkD) : List Value := [.int .i64 x.Number, .string x.Who, .string x.Cue, .bool x.Done]
theorem RemarkD.cells_len (x : RemarkD) : x.cells.length = 4 := rfl
def RemarkD.wf (x : RemarkD) : Prop := (-9223372036854775808 ≤ x.Number ∧ x.Number ≤ 9223372036854775807) ∧ x.Who.size ≤ maxLen ∧ x.Cue.size ≤ maxLen
theorem RemarkD.rd {w : World} {A : Option Addr} {xs : List RemarkD} (h : Rd RemarkD.cells 4 w A xs) {i : Nat} {x : RemarkD} (hx : xs[i]? = some x) :
    ∃ b off, A = some ⟨b, off, none⟩ ∧ b < w.heap.size ∧ w.cell? ⟨b, off + i * 4, none⟩ = some (.int .i64 x.Number) ∧ w.cell? ⟨b, off + i * 4 + 1, none⟩ = some (.string x.Who) ∧ w.cell? ⟨b, off + i * 4 + 2, none⟩ = some (.string x.Cue) ∧ w.cell? ⟨b, off + i * 4 + 3, none⟩ = some (.bool x.Done) := by
  obtain ⟨b, off, e, hb, hc⟩ := h i x hx
  exact ⟨b, off, e, hb, hc 0 _ rfl, hc 1 _ rfl, hc 2 _ rfl, hc 3 _ rfl⟩
theorem Remark_info : (Try.prog.info? 28).map (fun i => (i.zero, i.size, i.bytes)) = some (some (.agg #[.int .i64 0, .string ByteArray.empty, .string ByteArray.empty, .bool false]), 4, 48) := by kernel_rfl

end Go.Proofs.Ytegehdhdlljikaa
