/- The copies, sizes and comparisons of a list of Ring. Conditions: strings no longer than 2^63 - 1 bytes, lists no longer than 2^40. -/
import Derived.Test.YtfcfgkkkepifhaaGreatDoorProg
import Derived.Test.YtfcfgkkkepifhaaGreatDoorBase
import Derived.Lib.Strings
import Derived.Test.YtfcfgkkkepifhaaGreatDoorOpen
namespace Go.Proofs.YtfcfgkkkepifhaaGreatDoor
set_option linter.unusedVariables false
open Go.RowKit Go.ChangeShapes

structure RingD where
  Radius : Int
  Count : Int
  From : Int
  Step : Int
  Price : Int
def RingD.cells (x : RingD) : List Value := [.int .i64 x.Radius, .int .i64 x.Count, .int .i64 x.From, .int .i64 x.Step, .int .i64 x.Price]
theorem RingD.cells_len (x : RingD) : x.cells.length = 5 := rfl
def RingD.wf (x : RingD) : Prop := (-9223372036854775808 ≤ x.Radius ∧ x.Radius ≤ 9223372036854775807) ∧ (-9223372036854775808 ≤ x.Count ∧ x.Count ≤ 9223372036854775807) ∧ (-9223372036854775808 ≤ x.From ∧ x.From ≤ 9223372036854775807) ∧ (-9223372036854775808 ≤ x.Step ∧ x.Step ≤ 9223372036854775807) ∧ (-9223372036854775808 ≤ x.Price ∧ x.Price ≤ 9223372036854775807)
theorem RingD.rd {w : World} {A : Option Addr} {xs : List RingD} (h : Rd RingD.cells 5 w A xs) {i : Nat} {x : RingD} (hx : xs[i]? = some x) :
    ∃ b off, A = some ⟨b, off, none⟩ ∧ b < w.heap.size ∧ w.cell? ⟨b, off + i * 5, none⟩ = some (.int .i64 x.Radius) ∧ w.cell? ⟨b, off + i * 5 + 1, none⟩ = some (.int .i64 x.Count) ∧ w.cell? ⟨b, off + i * 5 + 2, none⟩ = some (.int .i64 x.From) ∧ w.cell? ⟨b, off + i * 5 + 3, none⟩ = some (.int .i64 x.Step) ∧ w.cell? ⟨b, off + i * 5 + 4, none⟩ = some (.int .i64 x.Price) := by
  obtain ⟨b, off, e, hb, hc⟩ := h i x hx
  exact ⟨b, off, e, hb, hc 0 _ rfl, hc 1 _ rfl, hc 2 _ rfl, hc 3 _ rfl, hc 4 _ rfl⟩

end Go.Proofs.YtfcfgkkkepifhaaGreatDoor
