/- The law FnExactRingText: the walk through the law's own text. Conditions: those of the row's argument alone. -/
import Derived.Test.YtkepoedicgognaaDoorTexts
namespace Go.Proofs.YtkepoedicgognaaDoor
set_option linter.unusedVariables false
open Go.RowKit

set_option maxRecDepth 100000 in
set_option maxHeartbeats 1600000 in
theorem law_FnExactRingText (x0 : RingD) (w : World) (hx0 : x0.wf) (HT : ∀ V, IsX w V → Lib.TabIs Tryd.prog V "internal/strconv.uint64pow10" .u64 Lib.pow10Tab) :
    Calls Tryd.prog 5 #[.agg #[.int .i64 x0.Radius, .int .i64 x0.Count, .int .i64 x0.From, .int .i64 x0.Step, .int .i64 x0.Price]] w fun e w' => e = .returned (.bool true) ∧ IsX w w' := by
  go_enter Tryd.func5, Tryd.ntmps5
  go_wp2_with fail
  obtain ⟨W, hW⟩ : ∃ W, W = w.alloc (.cells #[.int .i64 x0.Radius, .int .i64 x0.Count, .int .i64 x0.From, .int .i64 x0.Step, .int .i64 x0.Price] 41) := ⟨_, rfl⟩
  have hx : IsX w W := hW ▸ (IsX.refl w).alloc _
  have hB : Blk W w.heap.size 41 #[.int .i64 x0.Radius, .int .i64 x0.Count, .int .i64 x0.From, .int .i64 x0.Step, .int .i64 x0.Price] := hW ▸ Blk.new w _ _
  rw [← hW]
  clear hW
  refine (c_toRing x0 W).mono ?_
  rintro e w1 ⟨rfl, hx1⟩
  replace hB := hB.x hx1
  go_wp2_with fail
  refine (s_RingText x0 w1 hx0).mono ?_
  rintro e w2 ⟨rfl, hx2⟩
  replace hB := hB.x hx2
  have d0 := hB.cell 0
  have d1 := hB.cell 1
  have d2 := hB.cell 2
  have d3 := hB.cell 3
  have d4 := hB.cell 4
  simp at d0 d1 d2 d3 d4
  have hlb := hB.lt
  go_wp2_with fail
  clear d0 d1 d2 d3 d4 hlb
  refine (c_toRing x0 w2).mono ?_
  rintro e w3 ⟨rfl, hx3⟩
  replace hB := hB.x hx3
  go_wp2_with fail
  refine (i_RingText x0 w3 hx0 (HT _ ((((hx).trans hx1).trans hx2).trans hx3))).mono ?_
  rintro e w4 ⟨rfl, hx4⟩
  replace hB := hB.x hx4
  go_wp2_with fail
  go_ret
  exact ⟨rfl, ((((hx).trans hx1).trans hx2).trans hx3).trans hx4⟩

end Go.Proofs.YtkepoedicgognaaDoor
