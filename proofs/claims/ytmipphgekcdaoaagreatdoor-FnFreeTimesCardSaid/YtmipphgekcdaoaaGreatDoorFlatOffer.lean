/- The copies, sizes and comparisons of a list of Offer. Conditions: strings no longer than 2^63 - 1 bytes, lists no longer than 2^40. -/
import Derived.Test.YtmipphgekcdaoaaGreatDoorProg
import Derived.Test.YtmipphgekcdaoaaGreatDoorBase
import Derived.Lib.Strings
import Derived.Test.YtmipphgekcdaoaaGreatDoorOpen
namespace Go.Proofs.YtmipphgekcdaoaaGreatDoor
set_option linter.unusedVariables false
open Go.RowKit Go.ChangeShapes

structure OfferD where
  Id : ByteArray
  Kind : ByteArray
  Start : Int
  Length : Int
  Worth : Int
def OfferD.cells (x : OfferD) : List Value := [.string x.Id, .string x.Kind, .int .i64 x.Start, .int .i64 x.Length, .int .i64 x.Worth]
theorem OfferD.cells_len (x : OfferD) : x.cells.length = 5 := rfl
def OfferD.wf (x : OfferD) : Prop := x.Id.size ≤ maxLen ∧ x.Kind.size ≤ maxLen ∧ (-9223372036854775808 ≤ x.Start ∧ x.Start ≤ 9223372036854775807) ∧ (-9223372036854775808 ≤ x.Length ∧ x.Length ≤ 9223372036854775807) ∧ (-9223372036854775808 ≤ x.Worth ∧ x.Worth ≤ 9223372036854775807)
theorem OfferD.rd {w : World} {A : Option Addr} {xs : List OfferD} (h : Rd OfferD.cells 5 w A xs) {i : Nat} {x : OfferD} (hx : xs[i]? = some x) :
    ∃ b off, A = some ⟨b, off, none⟩ ∧ b < w.heap.size ∧ w.cell? ⟨b, off + i * 5, none⟩ = some (.string x.Id) ∧ w.cell? ⟨b, off + i * 5 + 1, none⟩ = some (.string x.Kind) ∧ w.cell? ⟨b, off + i * 5 + 2, none⟩ = some (.int .i64 x.Start) ∧ w.cell? ⟨b, off + i * 5 + 3, none⟩ = some (.int .i64 x.Length) ∧ w.cell? ⟨b, off + i * 5 + 4, none⟩ = some (.int .i64 x.Worth) := by
  obtain ⟨b, off, e, hb, hc⟩ := h i x hx
  exact ⟨b, off, e, hb, hc 0 _ rfl, hc 1 _ rfl, hc 2 _ rfl, hc 3 _ rfl, hc 4 _ rfl⟩
theorem Offer_info : (Tryz.prog.info? 33).map (fun i => (i.zero, i.size, i.bytes)) = some (some (.agg #[.string ByteArray.empty, .string ByteArray.empty, .int .i64 0, .int .i64 0, .int .i64 0]), 5, 56) := by kernel_rfl

end Go.Proofs.YtmipphgekcdaoaaGreatDoor
