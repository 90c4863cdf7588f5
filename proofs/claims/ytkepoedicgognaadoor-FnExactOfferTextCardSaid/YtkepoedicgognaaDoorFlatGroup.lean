/- The copies, sizes and comparisons of a list of Group. Conditions: strings no longer than 2^63 - 1 bytes, lists no longer than 2^40. -/
import Derived.Test.YtkepoedicgognaaDoorProg
import Derived.Test.YtkepoedicgognaaDoorBase
import Derived.Lib.Strings
import Derived.Test.YtkepoedicgognaaDoorOpen
namespace Go.Proofs.YtkepoedicgognaaDoor
set_option linter.unusedVariables false
open Go.RowKit Go.ChangeShapes

structure GroupD where
  Name : ByteArray
  Persons : Int
  Wish : Int
def GroupD.cells (x : GroupD) : List Value := [.string x.Name, .int .i64 x.Persons, .int .i64 x.Wish]
theorem GroupD.cells_len (x : GroupD) : x.cells.length = 3 := rfl
def GroupD.wf (x : GroupD) : Prop := x.Name.size ≤ maxLen ∧ (-9223372036854775808 ≤ x.Persons ∧ x.Persons ≤ 9223372036854775807) ∧ (-9223372036854775808 ≤ x.Wish ∧ x.Wish ≤ 9223372036854775807)
theorem GroupD.rd {w : World} {A : Option Addr} {xs : List GroupD} (h : Rd GroupD.cells 3 w A xs) {i : Nat} {x : GroupD} (hx : xs[i]? = some x) :
    ∃ b off, A = some ⟨b, off, none⟩ ∧ b < w.heap.size ∧ w.cell? ⟨b, off + i * 3, none⟩ = some (.string x.Name) ∧ w.cell? ⟨b, off + i * 3 + 1, none⟩ = some (.int .i64 x.Persons) ∧ w.cell? ⟨b, off + i * 3 + 2, none⟩ = some (.int .i64 x.Wish) := by
  obtain ⟨b, off, e, hb, hc⟩ := h i x hx
  exact ⟨b, off, e, hb, hc 0 _ rfl, hc 1 _ rfl, hc 2 _ rfl⟩

theorem c_toGroup (x : GroupD) (w : World) : Calls Tryd.prog 17 #[.agg #[.string x.Name, .int .i64 x.Persons, .int .i64 x.Wish]] w fun e w' => e = .returned (.agg #[.string x.Name, .int .i64 x.Persons, .int .i64 x.Wish]) ∧ IsX w w' := by
  go_enter Tryd.func17, Tryd.ntmps17
  go_wp2
  exact bodyPost_ret (v := .agg #[.string x.Name, .int .i64 x.Persons, .int .i64 x.Wish]) (by simp [results, Tryd.results17, go_sem]) rfl ⟨rfl, ((((IsX.refl _).alloc _).alloc _).alloc _)⟩

theorem open_Group {H : Type} {enc : TypeId × Value → H} {w : World} {base : Nat} {spare : Nat → Bool} {held : Bool} (cs : List Value) (n : Nat) (y : DataW H × List MemPlace) (hl : cs.length = 3) (h : DataW.trod enc Tryd.prog w base spare held n 34 cs = some y) :
    ∃ x : GroupD, x.wf ∧ x.cells = cs := by
  have hf := open_fields Tryd.underlying34 (by kernel_rfl) (by rw [hl]; rfl) h
  obtain ⟨v0, m0, z0, e0, g0⟩ := hf 0 _ rfl
  obtain ⟨v1, m1, z1, e1, g1⟩ := hf 1 _ rfl
  obtain ⟨v2, m2, z2, e2, g2⟩ := hf 2 _ rfl
  obtain ⟨x0, rfl, b0⟩ := field_string Tryd.underlying9 g0
  obtain ⟨x1, rfl, b1, t1⟩ := field_int Tryd.underlying2 g1
  obtain ⟨x2, rfl, b2, t2⟩ := field_int Tryd.underlying2 g2
  refine ⟨⟨x0, x1, x2⟩, ⟨b0, ⟨b1, t1⟩, ⟨b2, t2⟩⟩, ?_⟩
  apply List.ext_getElem?
  intro j
  rcases j with _ | _ | _ | j
  · exact e0.symm
  · exact e1.symm
  · exact e2.symm
  · rw [List.getElem?_eq_none (by simp [GroupD.cells]), List.getElem?_eq_none (by omega)]

set_option maxHeartbeats 400000 in
theorem c_szGroup (x : GroupD) (left : Int) (w : World) (hx : x.wf) (h0 : 0 ≤ left) (h1 : left ≤ 1099511627776) : Calls Tryd.prog 15 #[.agg #[.string x.Name, .int .i64 x.Persons, .int .i64 x.Wish], .int .i64 left] w (SzPost left 0 w) := by
  have HX := hide hx
  clear hx
  have b0 : x.Name.size ≤ 9223372036854775807 := by have := HX.out; simp only [GroupD.wf, maxLen] at this; omega
  go_enter Tryd.func15, Tryd.ntmps15
  go_wp2
  all_goals
    go_ret
    exact ⟨_, rfl, by omega, by omega, by omega, (IsX.refl _).alloc _⟩

end Go.Proofs.YtkepoedicgognaaDoor
