/- Lists of int64: copies, comparisons of equal lists, sizes. Conditions: lists no longer than 2^40. -/
import Derived.Test.YtmipphgekcdaoaaGreatDoorProg
import Derived.Test.YtmipphgekcdaoaaGreatDoorOpen
import Derived.Lib.Strings
namespace Go.Proofs.YtmipphgekcdaoaaGreatDoor
set_option linter.unusedVariables false
open Go.RowKit Go.ChangeShapes

def intC (x : Int) : List Value := [.int .i64 x]
theorem intC_len (x : Int) : (intC x).length = 1 := rfl
theorem int_rd {w : World} {A : Option Addr} {xs : List Int} (h : Rd intC 1 w A xs) {i : Nat} {x : Int} (hx : xs[i]? = some x) :
    ∃ b off, A = some ⟨b, off, none⟩ ∧ b < w.heap.size ∧ w.cell? ⟨b, off + i, none⟩ = some (.int .i64 x) := by
  obtain ⟨b, off, e, hb, hc⟩ := h i x hx
  have := hc 0 _ rfl
  rw [Nat.mul_one, Nat.add_zero] at this
  exact ⟨b, off, e, hb, this⟩
def intWf (x : Int) : Prop := -9223372036854775808 ≤ x ∧ x ≤ 9223372036854775807
theorem open_ints' {H : Type} {enc : TypeId × Value → H} {w : World} {base : Nat} {spare : Nat → Bool} {held : Bool} {fuel : Nat} {cs : List Value} {x : DataW H × List MemPlace} (h : DataW.trod enc Tryz.prog w base spare held fuel 25 cs = some x) :
    ∃ (A : Option Addr) (cap : Nat) (xs : List Int), cs = [.slice A xs.length cap] ∧ xs.length ≤ cap ∧ cap ≤ maxLen ∧ (∀ x ∈ xs, intWf x) ∧ Rd intC 1 w A xs :=
  open_list intC intWf Tryz.underlying25 (by kernel_rfl) (by omega) intC_len (fun cs' m y hl h => by
    match cs', hl with
    | [c], _ =>
      obtain ⟨z, rfl, h1, h2⟩ := field_int Tryz.underlying2 h
      exact ⟨z, ⟨h1, h2⟩, rfl⟩) h
theorem Int64_info : (Tryz.prog.info? 2).map (fun i => (i.zero, i.size, i.bytes)) = some (some (.int .i64 0), 1, 8) := by kernel_rfl

end Go.Proofs.YtmipphgekcdaoaaGreatDoor
