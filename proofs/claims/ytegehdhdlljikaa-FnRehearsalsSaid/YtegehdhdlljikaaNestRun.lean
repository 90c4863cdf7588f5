/- Lists of Run, a struct with slices among its fields: copies, sizes, comparisons of equal data, arguments opened. Conditions: strings no longer than 2^63 - 1 bytes, lists no longer than 2^40. -/
import Derived.Test.YtegehdhdlljikaaProg
import Derived.Test.YtegehdhdlljikaaLString
import Derived.Test.YtegehdhdlljikaaFlatRemark
namespace Go.Proofs.Ytegehdhdlljikaa
set_option linter.unusedVariables false
open Go.RowKit Go.ChangeShapes

structure RunD where
  Day : Int
  Cues : List ByteArray
  Remarks : List RemarkD
structure RunR where
  Day : Int
  CuesA : Option Addr
  CuesC : Nat
  Cues : List ByteArray
  RemarksA : Option Addr
  RemarksC : Nat
  Remarks : List RemarkD
def RunR.data (r : RunR) : RunD := ⟨r.Day, r.Cues, r.Remarks⟩
def RunR.cells (r : RunR) : List Value := [.int .i64 r.Day, .slice r.CuesA r.Cues.length r.CuesC, .slice r.RemarksA r.Remarks.length r.RemarksC]
theorem RunR.cells_len (r : RunR) : r.cells.length = 3 := rfl
def RunD.wf (x : RunD) : Prop := (-9223372036854775808 ≤ x.Day ∧ x.Day ≤ 9223372036854775807) ∧ (x.Cues.length ≤ maxLen ∧ ∀ y ∈ x.Cues, strWf y) ∧ (x.Remarks.length ≤ maxLen ∧ ∀ y ∈ x.Remarks, y.wf)
def RunD.small (left : Int) (x : RunD) : Prop := ((x.Cues.length : Nat) : Int) ≤ left ∧ ((x.Remarks.length : Nat) : Int) ≤ left
def RunR.ok (lo : Nat) (w : World) (r : RunR) : Prop := (Rd strC 1 w r.CuesA r.Cues ∧ From lo r.CuesA) ∧ (Rd RemarkD.cells 4 w r.RemarksA r.Remarks ∧ From lo r.RemarksA)
theorem RunR.ok.x {lo : Nat} {w w' : World} {r : RunR} (h : r.ok lo w) (hx : IsX w w') : r.ok lo w' := ⟨⟨h.1.1.x hx, h.1.2⟩, ⟨h.2.1.x hx, h.2.2⟩⟩
/-- A slice of Run reads as the list xs; what lies in its elements' own slices lies from block lo on. -/
def RdRun (lo : Nat) (w : World) (A : Option Addr) (xs : List RunD) : Prop := ∃ rs : List RunR, rs.map RunR.data = xs ∧ Rd RunR.cells 3 w A rs ∧ ∀ r ∈ rs, r.ok lo w
theorem RdRun.x {lo : Nat} {w w' : World} {A : Option Addr} {xs : List RunD} (h : RdRun lo w A xs) (hx : IsX w w') : RdRun lo w' A xs := by
  obtain ⟨rs, e, hr, ho⟩ := h
  exact ⟨rs, e, hr.x hx, fun r hm => (ho r hm).x hx⟩
theorem RdRun.rd {lo : Nat} {w : World} {A : Option Addr} {xs : List RunD} (h : RdRun lo w A xs) {i : Nat} {x : RunD} (hx : xs[i]? = some x) :
    ∃ b off qCuesA qRemarksA qCuesC qRemarksC, A = some ⟨b, off, none⟩ ∧ b < w.heap.size ∧ w.cell? ⟨b, off + i * 3, none⟩ = some (.int .i64 x.Day) ∧ w.cell? ⟨b, off + i * 3 + 1, none⟩ = some (.slice qCuesA x.Cues.length qCuesC) ∧ w.cell? ⟨b, off + i * 3 + 2, none⟩ = some (.slice qRemarksA x.Remarks.length qRemarksC) ∧ Rd strC 1 w qCuesA x.Cues ∧ Rd RemarkD.cells 4 w qRemarksA x.Remarks := by
  obtain ⟨rs, rfl, hr, ho⟩ := h
  rw [List.getElem?_map, Option.map_eq_some_iff] at hx
  obtain ⟨r, hri, rfl⟩ := hx
  obtain ⟨b, off, e, hb, hc⟩ := hr i r hri
  have hok := ho r (List.mem_of_getElem? hri)
  exact ⟨b, off, r.CuesA, r.RemarksA, r.CuesC, r.RemarksC, e, hb, hc 0 _ rfl, hc 1 _ rfl, hc 2 _ rfl, hok.1.1, hok.2.1⟩
theorem Run_info : (Try.prog.info? 31).map (fun i => (i.zero, i.size, i.bytes)) = some (some (.agg #[.int .i64 0, .slice none 0 0, .slice none 0 0]), 3, 56) := by kernel_rfl

def RunR.own (lo : Nat) (w : World) (r : RunR) : Prop := (∃ g, r.CuesA = some ⟨g, 0, none⟩ ∧ lo ≤ g ∧ r.CuesC = r.Cues.length ∧ Blk w g 9 (r.Cues.flatMap strC).toArray) ∧ (∃ g, r.RemarksA = some ⟨g, 0, none⟩ ∧ lo ≤ g ∧ r.RemarksC = r.Remarks.length ∧ Blk w g 28 (r.Remarks.flatMap RemarkD.cells).toArray)
theorem RunR.own.x {lo : Nat} {w w' : World} {r : RunR} (h : r.own lo w) (hx : IsX w w') : r.own lo w' := by
  obtain ⟨g0, e0, l0, q0, b0⟩ := h.1
  obtain ⟨g1, e1, l1, q1, b1⟩ := h.2
  exact ⟨⟨g0, e0, l0, q0, b0.x hx⟩, ⟨g1, e1, l1, q1, b1.x hx⟩⟩
theorem RunR.own.ok {lo : Nat} {w : World} {r : RunR} (h : r.own lo w) : r.ok lo w := by
  obtain ⟨g0, e0, l0, q0, b0⟩ := h.1
  obtain ⟨g1, e1, l1, q1, b1⟩ := h.2
  exact ⟨⟨by rw [e0]; exact b0.rd strC_len, fun b off s h => by rw [e0] at h; injection h with h; injection h with h; omega⟩, ⟨by rw [e1]; exact b1.rd RemarkD.cells_len, fun b off s h => by rw [e1] at h; injection h with h; injection h with h; omega⟩⟩
theorem RunR.own.put {lo g : Nat} {w : World} {r : RunR} (h : r.own lo w) (hg : g < lo) (vs : List Value) (o : Nat) : r.own lo (putAll w g o vs) := by
  obtain ⟨g0, e0, l0, q0, b0⟩ := h.1
  obtain ⟨g1, e1, l1, q1, b1⟩ := h.2
  exact ⟨⟨g0, e0, l0, q0, putAll_blk_far g (by omega) vs o w b0⟩, ⟨g1, e1, l1, q1, putAll_blk_far g (by omega) vs o w b1⟩⟩
/-- A list of Run in memory of its own: block g is its row, its elements' slices lie in later blocks. -/
def MadeRun (w : World) (g : Nat) (xs : List RunD) : Prop := ∃ rs : List RunR, rs.map RunR.data = xs ∧ Blk w g 31 (rs.flatMap RunR.cells).toArray ∧ ∀ r ∈ rs, r.own (g + 1) w
theorem MadeRun.x {w w' : World} {g : Nat} {xs : List RunD} (h : MadeRun w g xs) (hx : IsX w w') : MadeRun w' g xs := by
  obtain ⟨rs, e, hb, ho⟩ := h
  exact ⟨rs, e, hb.x hx, fun r hr => (ho r hr).x hx⟩
theorem MadeRun.rd {w : World} {g : Nat} {xs : List RunD} (h : MadeRun w g xs) : RdRun 0 w (some ⟨g, 0, none⟩) xs := by
  obtain ⟨rs, e, hb, ho⟩ := h
  exact ⟨rs, e, hb.rd RunR.cells_len, fun r hr => let h := (ho r hr).ok; ⟨⟨h.1.1, fun _ _ _ _ => Nat.zero_le _⟩, ⟨h.2.1, fun _ _ _ _ => Nat.zero_le _⟩⟩⟩

end Go.Proofs.Ytegehdhdlljikaa
