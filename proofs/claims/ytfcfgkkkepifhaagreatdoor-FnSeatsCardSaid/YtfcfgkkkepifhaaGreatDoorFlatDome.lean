/- The copies, sizes and comparisons of a list of Dome. Conditions: strings no longer than 2^63 - 1 bytes, lists no longer than 2^40. -/
import Derived.Test.YtfcfgkkkepifhaaGreatDoorProg
import Derived.Test.YtfcfgkkkepifhaaGreatDoorBase
import Derived.Lib.Strings
import Derived.Test.YtfcfgkkkepifhaaGreatDoorOpen
namespace Go.Proofs.YtfcfgkkkepifhaaGreatDoor
set_option linter.unusedVariables false
open Go.RowKit Go.ChangeShapes

structure DomeD where
  Name : ByteArray
  Radius : Int
  Tilt : Int
def DomeD.cells (x : DomeD) : List Value := [.string x.Name, .int .i64 x.Radius, .int .i64 x.Tilt]
theorem DomeD.cells_len (x : DomeD) : x.cells.length = 3 := rfl
def DomeD.wf (x : DomeD) : Prop := x.Name.size ≤ maxLen ∧ (-9223372036854775808 ≤ x.Radius ∧ x.Radius ≤ 9223372036854775807) ∧ (-9223372036854775808 ≤ x.Tilt ∧ x.Tilt ≤ 9223372036854775807)
theorem DomeD.rd {w : World} {A : Option Addr} {xs : List DomeD} (h : Rd DomeD.cells 3 w A xs) {i : Nat} {x : DomeD} (hx : xs[i]? = some x) :
    ∃ b off, A = some ⟨b, off, none⟩ ∧ b < w.heap.size ∧ w.cell? ⟨b, off + i * 3, none⟩ = some (.string x.Name) ∧ w.cell? ⟨b, off + i * 3 + 1, none⟩ = some (.int .i64 x.Radius) ∧ w.cell? ⟨b, off + i * 3 + 2, none⟩ = some (.int .i64 x.Tilt) := by
  obtain ⟨b, off, e, hb, hc⟩ := h i x hx
  exact ⟨b, off, e, hb, hc 0 _ rfl, hc 1 _ rfl, hc 2 _ rfl⟩

end Go.Proofs.YtfcfgkkkepifhaaGreatDoor
