/- The law FnExactOfferText: the walk through the law's own text. Conditions: those of the row's argument alone. -/
import Derived.Test.YtkepoedicgognaaDoorOfferText
namespace Go.Proofs.YtkepoedicgognaaDoor
set_option linter.unusedVariables false
open Go.RowKit

set_option maxRecDepth 100000 in
set_option maxHeartbeats 1600000 in
theorem law_FnExactOfferText (x0 : OfferD) (w : World) (hx0 : x0.wf) (HT : ∀ V, IsX w V → Lib.TabIs Tryd.prog V "internal/strconv.uint64pow10" .u64 Lib.pow10Tab) :
    Calls Tryd.prog 8 #[.agg #[.string x0.Id, .string x0.Kind, .int .i64 x0.Start, .int .i64 x0.Length, .int .i64 x0.Worth]] w fun e w' => e = .returned (.bool true) ∧ IsX w w' := by
  go_enter Tryd.func8, Tryd.ntmps8
  go_wp2_with fail
  obtain ⟨W, hW⟩ : ∃ W, W = w.alloc (.cells #[.string x0.Id, .string x0.Kind, .int .i64 x0.Start, .int .i64 x0.Length, .int .i64 x0.Worth] 52) := ⟨_, rfl⟩
  have hx : IsX w W := hW ▸ (IsX.refl w).alloc _
  have hB : Blk W w.heap.size 52 #[.string x0.Id, .string x0.Kind, .int .i64 x0.Start, .int .i64 x0.Length, .int .i64 x0.Worth] := hW ▸ Blk.new w _ _
  rw [← hW]
  clear hW
  refine (c_szOffer x0 1048576 W hx0 (by omega) (by omega)).mono ?_
  rintro e w1 ⟨m1, rfl, e1a, e1b, e1c, hx1⟩
  replace hB := hB.x hx1
  have d0 := hB.cell 0
  have d1 := hB.cell 1
  have d2 := hB.cell 2
  have d3 := hB.cell 3
  have d4 := hB.cell 4
  simp at d0 d1 d2 d3 d4
  have hlb := hB.lt
  by_cases hm1 : m1 < 0
  · go_wp2_with fail
    go_ret
    exact ⟨rfl, (hx).trans hx1⟩
  go_wp2_with fail
  clear d0 d1 d2 d3 d4 hlb
  refine (c_toOffer x0 w1).mono ?_
  rintro e w2 ⟨rfl, hx2⟩
  replace hB := hB.x hx2
  go_wp2_with fail
  refine (s_OfferText x0 w2 hx0).mono ?_
  rintro e w3 ⟨rfl, hx3⟩
  replace hB := hB.x hx3
  have d0 := hB.cell 0
  have d1 := hB.cell 1
  have d2 := hB.cell 2
  have d3 := hB.cell 3
  have d4 := hB.cell 4
  simp at d0 d1 d2 d3 d4
  have hlb := hB.lt
  go_wp2_with fail
  clear d0 d1 d2 d3 d4 hlb
  refine (c_toOffer x0 w3).mono ?_
  rintro e w4 ⟨rfl, hx4⟩
  replace hB := hB.x hx4
  go_wp2_with fail
  refine (i_OfferText x0 w4 hx0 (HT _ (((((hx).trans hx1).trans hx2).trans hx3).trans hx4))).mono ?_
  rintro e w5 ⟨rfl, hx5⟩
  replace hB := hB.x hx5
  go_wp2_with fail
  go_ret
  exact ⟨rfl, (((((hx).trans hx1).trans hx2).trans hx3).trans hx4).trans hx5⟩

end Go.Proofs.YtkepoedicgognaaDoor
