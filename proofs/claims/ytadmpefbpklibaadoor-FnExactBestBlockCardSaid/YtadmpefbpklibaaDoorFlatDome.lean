/- The copies, sizes and comparisons of a list of Dome. Conditions: strings no longer than 2^63 - 1 bytes, lists no longer than 2^40. -/
import Derived.Test.YtadmpefbpklibaaDoorProg
import Derived.Test.YtadmpefbpklibaaDoorBase
import Derived.Lib.Strings
import Derived.Test.YtadmpefbpklibaaDoorOpen
namespace Go.Proofs.YtadmpefbpklibaaDoor
set_option linter.unusedVariables false
open Go.RowKit Go.ChangeShapes

structure DomeD where
  Name : ByteArray
  Radius : Int
  Tilt : Int
def DomeD.cells (x : DomeD) : List Value := [.string x.Name, .int .i64 x.Radius, .int .i64 x.Tilt]
theorem DomeD.cells_len (x : DomeD) : x.cells.length = 3 := rfl
def DomeD.wf (x : DomeD) : Prop := x.Name.size ≤ maxLen ∧ (-9223372036854775808 ≤ x.Radius ∧ x.Radius ≤ 9223372036854775807) ∧ (-9223372036854775808 ≤ x.Tilt ∧ x.Tilt ≤ 9223372036854775807)
theorem DomeD.rd {w : World} {A : Option Addr} {xs : List DomeD} (h : Rd DomeD.cells 3 w A xs) {i : Nat} {x : DomeD} (hx : xs[i]? = some x) :
    ∃ b off, A = some ⟨b, off, none⟩ ∧ b < w.heap.size ∧ w.cell? ⟨b, off + i * 3, none⟩ = some (.string x.Name) ∧ w.cell? ⟨b, off + i * 3 + 1, none⟩ = some (.int .i64 x.Radius) ∧ w.cell? ⟨b, off + i * 3 + 2, none⟩ = some (.int .i64 x.Tilt) := by
  obtain ⟨b, off, e, hb, hc⟩ := h i x hx
  exact ⟨b, off, e, hb, hc 0 _ rfl, hc 1 _ rfl, hc 2 _ rfl⟩

theorem c_toDome (x : DomeD) (w : World) : Calls Tryd.prog 8 #[.agg #[.string x.Name, .int .i64 x.Radius, .int .i64 x.Tilt]] w fun e w' => e = .returned (.agg #[.string x.Name, .int .i64 x.Radius, .int .i64 x.Tilt]) ∧ IsX w w' := by
  go_enter Tryd.func8, Tryd.ntmps8
  go_wp2
  exact bodyPost_ret (v := .agg #[.string x.Name, .int .i64 x.Radius, .int .i64 x.Tilt]) (by simp [results, Tryd.results8, go_sem]) rfl ⟨rfl, ((((IsX.refl _).alloc _).alloc _).alloc _)⟩

theorem open_Dome {H : Type} {enc : TypeId × Value → H} {w : World} {base : Nat} {spare : Nat → Bool} {held : Bool} (cs : List Value) (n : Nat) (y : DataW H × List MemPlace) (hl : cs.length = 3) (h : DataW.trod enc Tryd.prog w base spare held n 23 cs = some y) :
    ∃ x : DomeD, x.wf ∧ x.cells = cs := by
  have hf := open_fields Tryd.underlying23 (by kernel_rfl) (by rw [hl]; rfl) h
  obtain ⟨v0, m0, z0, e0, g0⟩ := hf 0 _ rfl
  obtain ⟨v1, m1, z1, e1, g1⟩ := hf 1 _ rfl
  obtain ⟨v2, m2, z2, e2, g2⟩ := hf 2 _ rfl
  obtain ⟨x0, rfl, b0⟩ := field_string Tryd.underlying9 g0
  obtain ⟨x1, rfl, b1, t1⟩ := field_int Tryd.underlying2 g1
  obtain ⟨x2, rfl, b2, t2⟩ := field_int Tryd.underlying2 g2
  refine ⟨⟨x0, x1, x2⟩, ⟨b0, ⟨b1, t1⟩, ⟨b2, t2⟩⟩, ?_⟩
  apply List.ext_getElem?
  intro j
  rcases j with _ | _ | _ | j
  · exact e0.symm
  · exact e1.symm
  · exact e2.symm
  · rw [List.getElem?_eq_none (by simp [DomeD.cells]), List.getElem?_eq_none (by omega)]

set_option maxHeartbeats 400000 in
theorem c_szDome (x : DomeD) (left : Int) (w : World) (hx : x.wf) (h0 : 0 ≤ left) (h1 : left ≤ 1099511627776) : Calls Tryd.prog 5 #[.agg #[.string x.Name, .int .i64 x.Radius, .int .i64 x.Tilt], .int .i64 left] w (SzPost left 0 w) := by
  have HX := hide hx
  clear hx
  have b0 : x.Name.size ≤ 9223372036854775807 := by have := HX.out; simp only [DomeD.wf, maxLen] at this; omega
  go_enter Tryd.func5, Tryd.ntmps5
  go_wp2
  all_goals
    go_ret
    exact ⟨_, rfl, by omega, by omega, by omega, (IsX.refl _).alloc _⟩

end Go.Proofs.YtadmpefbpklibaaDoor
