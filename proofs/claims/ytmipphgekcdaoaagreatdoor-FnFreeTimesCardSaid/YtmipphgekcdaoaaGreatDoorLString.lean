/- Lists of string: copies, comparisons of equal lists, sizes. Conditions: lists no longer than 2^40. -/
import Derived.Test.YtmipphgekcdaoaaGreatDoorProg
import Derived.Test.YtmipphgekcdaoaaGreatDoorOpen
import Derived.Lib.Strings
namespace Go.Proofs.YtmipphgekcdaoaaGreatDoor
set_option linter.unusedVariables false
open Go.RowKit Go.ChangeShapes

def strC (x : ByteArray) : List Value := [.string x]
theorem strC_len (x : ByteArray) : (strC x).length = 1 := rfl
theorem str_rd {w : World} {A : Option Addr} {xs : List ByteArray} (h : Rd strC 1 w A xs) {i : Nat} {x : ByteArray} (hx : xs[i]? = some x) :
    ∃ b off, A = some ⟨b, off, none⟩ ∧ b < w.heap.size ∧ w.cell? ⟨b, off + i, none⟩ = some (.string x) := by
  obtain ⟨b, off, e, hb, hc⟩ := h i x hx
  have := hc 0 _ rfl
  rw [Nat.mul_one, Nat.add_zero] at this
  exact ⟨b, off, e, hb, this⟩
def strWf (x : ByteArray) : Prop := x.size ≤ maxLen
theorem open_strs' {H : Type} {enc : TypeId × Value → H} {w : World} {base : Nat} {spare : Nat → Bool} {held : Bool} {fuel : Nat} {cs : List Value} {x : DataW H × List MemPlace} (h : DataW.trod enc Tryz.prog w base spare held fuel 54 cs = some x) :
    ∃ (A : Option Addr) (cap : Nat) (xs : List ByteArray), cs = [.slice A xs.length cap] ∧ xs.length ≤ cap ∧ cap ≤ maxLen ∧ (∀ x ∈ xs, strWf x) ∧ Rd strC 1 w A xs :=
  open_list strC strWf Tryz.underlying54 (by kernel_rfl) (by omega) strC_len (fun cs' m y hl h => by
    match cs', hl with
    | [c], _ =>
      obtain ⟨z, rfl, h1⟩ := field_string Tryz.underlying9 h
      exact ⟨z, h1, rfl⟩) h
theorem String_info : (Tryz.prog.info? 9).map (fun i => (i.zero, i.size, i.bytes)) = some (some (.string ByteArray.empty), 1, 16) := by kernel_rfl

end Go.Proofs.YtmipphgekcdaoaaGreatDoor
