/- The copies, sizes and comparisons of a list of Cue. Conditions: strings no longer than 2^63 - 1 bytes, lists no longer than 2^40. -/
import Derived.Test.YtegehdhdlljikaaProg
import Derived.Test.YtegehdhdlljikaaBase
import Derived.Lib.Strings
import Derived.Test.YtegehdhdlljikaaOpen
namespace Go.Proofs.Ytegehdhdlljikaa
set_option linter.unusedVariables false
open Go.RowKit Go.ChangeShapes

structure CueD where
  Id : ByteArray
  Time : Int
  Length : Int
  Target : ByteArray
  Action : Int
  Val : Int
def CueD.cells (x : CueD) : List Value := [.string x.Id, .int .i64 x.Time, .int .i64 x.Length, .string x.Target, .int .i64 x.Action, .int .i64 x.Val]
theorem CueD.cells_len (x : CueD) : x.cells.length = 6 := rfl
def CueD.wf (x : CueD) : Prop := x.Id.size ≤ maxLen ∧ (-9223372036854775808 ≤ x.Time ∧ x.Time ≤ 9223372036854775807) ∧ (-9223372036854775808 ≤ x.Length ∧ x.Length ≤ 9223372036854775807) ∧ x.Target.size ≤ maxLen ∧ (-9223372036854775808 ≤ x.Action ∧ x.Action ≤ 9223372036854775807) ∧ (-9223372036854775808 ≤ x.Val ∧ x.Val ≤ 9223372036854775807)
theorem CueD.rd {w : World} {A : Option Addr} {xs : List CueD} (h : Rd CueD.cells 6 w A xs) {i : Nat} {x : CueD} (hx : xs[i]? = some x) :
    ∃ b off, A = some ⟨b, off, none⟩ ∧ b < w.heap.size ∧ w.cell? ⟨b, off + i * 6, none⟩ = some (.string x.Id) ∧ w.cell? ⟨b, off + i * 6 + 1, none⟩ = some (.int .i64 x.Time) ∧ w.cell? ⟨b, off + i * 6 + 2, none⟩ = some (.int .i64 x.Length) ∧ w.cell? ⟨b, off + i * 6 + 3, none⟩ = some (.string x.Target) ∧ w.cell? ⟨b, off + i * 6 + 4, none⟩ = some (.int .i64 x.Action) ∧ w.cell? ⟨b, off + i * 6 + 5, none⟩ = some (.int .i64 x.Val) := by
  obtain ⟨b, off, e, hb, hc⟩ := h i x hx
  exact ⟨b, off, e, hb, hc 0 _ rfl, hc 1 _ rfl, hc 2 _ rfl, hc 3 _ rfl, hc 4 _ rfl, hc 5 _ rfl⟩
theorem Cue_info : (Try.prog.info? 60).map (fun i => (i.zero, i.size, i.bytes)) = some (some (.agg #[.string ByteArray.empty, .int .i64 0, .int .i64 0, .string ByteArray.empty, .int .i64 0, .int .i64 0]), 6, 64) := by kernel_rfl

end Go.Proofs.Ytegehdhdlljikaa
