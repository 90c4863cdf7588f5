/- The copies, sizes and comparisons of a list of Offer. Conditions: strings no longer than 2^63 - 1 bytes, lists no longer than 2^40. -/
import Derived.Test.YtkepoedicgognaaDoorProg
import Derived.Test.YtkepoedicgognaaDoorBase
import Derived.Lib.Strings
import Derived.Test.YtkepoedicgognaaDoorOpen
namespace Go.Proofs.YtkepoedicgognaaDoor
set_option linter.unusedVariables false
open Go.RowKit Go.ChangeShapes

structure OfferD where
  Id : ByteArray
  Kind : ByteArray
  Start : Int
  Length : Int
  Worth : Int
def OfferD.cells (x : OfferD) : List Value := [.string x.Id, .string x.Kind, .int .i64 x.Start, .int .i64 x.Length, .int .i64 x.Worth]
theorem OfferD.cells_len (x : OfferD) : x.cells.length = 5 := rfl
def OfferD.wf (x : OfferD) : Prop := x.Id.size ≤ maxLen ∧ x.Kind.size ≤ maxLen ∧ (-9223372036854775808 ≤ x.Start ∧ x.Start ≤ 9223372036854775807) ∧ (-9223372036854775808 ≤ x.Length ∧ x.Length ≤ 9223372036854775807) ∧ (-9223372036854775808 ≤ x.Worth ∧ x.Worth ≤ 9223372036854775807)
theorem OfferD.rd {w : World} {A : Option Addr} {xs : List OfferD} (h : Rd OfferD.cells 5 w A xs) {i : Nat} {x : OfferD} (hx : xs[i]? = some x) :
    ∃ b off, A = some ⟨b, off, none⟩ ∧ b < w.heap.size ∧ w.cell? ⟨b, off + i * 5, none⟩ = some (.string x.Id) ∧ w.cell? ⟨b, off + i * 5 + 1, none⟩ = some (.string x.Kind) ∧ w.cell? ⟨b, off + i * 5 + 2, none⟩ = some (.int .i64 x.Start) ∧ w.cell? ⟨b, off + i * 5 + 3, none⟩ = some (.int .i64 x.Length) ∧ w.cell? ⟨b, off + i * 5 + 4, none⟩ = some (.int .i64 x.Worth) := by
  obtain ⟨b, off, e, hb, hc⟩ := h i x hx
  exact ⟨b, off, e, hb, hc 0 _ rfl, hc 1 _ rfl, hc 2 _ rfl, hc 3 _ rfl, hc 4 _ rfl⟩

theorem c_toOffer (x : OfferD) (w : World) : Calls Tryd.prog 28 #[.agg #[.string x.Id, .string x.Kind, .int .i64 x.Start, .int .i64 x.Length, .int .i64 x.Worth]] w fun e w' => e = .returned (.agg #[.string x.Id, .string x.Kind, .int .i64 x.Start, .int .i64 x.Length, .int .i64 x.Worth]) ∧ IsX w w' := by
  go_enter Tryd.func28, Tryd.ntmps28
  go_wp2
  exact bodyPost_ret (v := .agg #[.string x.Id, .string x.Kind, .int .i64 x.Start, .int .i64 x.Length, .int .i64 x.Worth]) (by simp [results, Tryd.results28, go_sem]) rfl ⟨rfl, ((((IsX.refl _).alloc _).alloc _).alloc _)⟩

theorem open_Offer {H : Type} {enc : TypeId × Value → H} {w : World} {base : Nat} {spare : Nat → Bool} {held : Bool} (cs : List Value) (n : Nat) (y : DataW H × List MemPlace) (hl : cs.length = 5) (h : DataW.trod enc Tryd.prog w base spare held n 52 cs = some y) :
    ∃ x : OfferD, x.wf ∧ x.cells = cs := by
  have hf := open_fields Tryd.underlying52 (by kernel_rfl) (by rw [hl]; rfl) h
  obtain ⟨v0, m0, z0, e0, g0⟩ := hf 0 _ rfl
  obtain ⟨v1, m1, z1, e1, g1⟩ := hf 1 _ rfl
  obtain ⟨v2, m2, z2, e2, g2⟩ := hf 2 _ rfl
  obtain ⟨v3, m3, z3, e3, g3⟩ := hf 3 _ rfl
  obtain ⟨v4, m4, z4, e4, g4⟩ := hf 4 _ rfl
  obtain ⟨x0, rfl, b0⟩ := field_string Tryd.underlying9 g0
  obtain ⟨x1, rfl, b1⟩ := field_string Tryd.underlying9 g1
  obtain ⟨x2, rfl, b2, t2⟩ := field_int Tryd.underlying2 g2
  obtain ⟨x3, rfl, b3, t3⟩ := field_int Tryd.underlying2 g3
  obtain ⟨x4, rfl, b4, t4⟩ := field_int Tryd.underlying2 g4
  refine ⟨⟨x0, x1, x2, x3, x4⟩, ⟨b0, b1, ⟨b2, t2⟩, ⟨b3, t3⟩, ⟨b4, t4⟩⟩, ?_⟩
  apply List.ext_getElem?
  intro j
  rcases j with _ | _ | _ | _ | _ | j
  · exact e0.symm
  · exact e1.symm
  · exact e2.symm
  · exact e3.symm
  · exact e4.symm
  · rw [List.getElem?_eq_none (by simp [OfferD.cells]), List.getElem?_eq_none (by omega)]

set_option maxHeartbeats 400000 in
theorem c_szOffer (x : OfferD) (left : Int) (w : World) (hx : x.wf) (h0 : 0 ≤ left) (h1 : left ≤ 1099511627776) : Calls Tryd.prog 26 #[.agg #[.string x.Id, .string x.Kind, .int .i64 x.Start, .int .i64 x.Length, .int .i64 x.Worth], .int .i64 left] w (SzPost left 0 w) := by
  have HX := hide hx
  clear hx
  have b0 : x.Id.size ≤ 9223372036854775807 := by have := HX.out; simp only [OfferD.wf, maxLen] at this; omega
  have b1 : x.Kind.size ≤ 9223372036854775807 := by have := HX.out; simp only [OfferD.wf, maxLen] at this; omega
  go_enter Tryd.func26, Tryd.ntmps26
  go_wp2
  all_goals
    go_ret
    exact ⟨_, rfl, by omega, by omega, by omega, (IsX.refl _).alloc _⟩

end Go.Proofs.YtkepoedicgognaaDoor
