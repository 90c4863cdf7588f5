/- The law FnExactGroupText: the walk through the law's own text. Conditions: those of the row's argument alone. -/
import Derived.Test.YtkepoedicgognaaDoorTexts
namespace Go.Proofs.YtkepoedicgognaaDoor
set_option linter.unusedVariables false
open Go.RowKit

set_option maxRecDepth 100000 in
set_option maxHeartbeats 1600000 in
theorem law_FnExactGroupText (x0 : GroupD) (w : World) (hx0 : x0.wf) (HT : ∀ V, IsX w V → Lib.TabIs Tryd.prog V "internal/strconv.uint64pow10" .u64 Lib.pow10Tab) :
    Calls Tryd.prog 4 #[.agg #[.string x0.Name, .int .i64 x0.Persons, .int .i64 x0.Wish]] w fun e w' => e = .returned (.bool true) ∧ IsX w w' := by
  go_enter Tryd.func4, Tryd.ntmps4
  go_wp2_with fail
  obtain ⟨W, hW⟩ : ∃ W, W = w.alloc (.cells #[.string x0.Name, .int .i64 x0.Persons, .int .i64 x0.Wish] 34) := ⟨_, rfl⟩
  have hx : IsX w W := hW ▸ (IsX.refl w).alloc _
  have hB : Blk W w.heap.size 34 #[.string x0.Name, .int .i64 x0.Persons, .int .i64 x0.Wish] := hW ▸ Blk.new w _ _
  rw [← hW]
  clear hW
  refine (c_szGroup x0 1048576 W hx0 (by omega) (by omega)).mono ?_
  rintro e w1 ⟨m1, rfl, e1a, e1b, e1c, hx1⟩
  replace hB := hB.x hx1
  have d0 := hB.cell 0
  have d1 := hB.cell 1
  have d2 := hB.cell 2
  simp at d0 d1 d2
  have hlb := hB.lt
  by_cases hm1 : m1 < 0
  · go_wp2_with fail
    go_ret
    exact ⟨rfl, (hx).trans hx1⟩
  go_wp2_with fail
  clear d0 d1 d2 hlb
  refine (c_toGroup x0 w1).mono ?_
  rintro e w2 ⟨rfl, hx2⟩
  replace hB := hB.x hx2
  go_wp2_with fail
  refine (s_GroupText x0 w2 hx0).mono ?_
  rintro e w3 ⟨rfl, hx3⟩
  replace hB := hB.x hx3
  have d0 := hB.cell 0
  have d1 := hB.cell 1
  have d2 := hB.cell 2
  simp at d0 d1 d2
  have hlb := hB.lt
  go_wp2_with fail
  clear d0 d1 d2 hlb
  refine (c_toGroup x0 w3).mono ?_
  rintro e w4 ⟨rfl, hx4⟩
  replace hB := hB.x hx4
  go_wp2_with fail
  refine (i_GroupText x0 w4 hx0 (HT _ (((((hx).trans hx1).trans hx2).trans hx3).trans hx4))).mono ?_
  rintro e w5 ⟨rfl, hx5⟩
  replace hB := hB.x hx5
  go_wp2_with fail
  go_ret
  exact ⟨rfl, (((((hx).trans hx1).trans hx2).trans hx3).trans hx4).trans hx5⟩

end Go.Proofs.YtkepoedicgognaaDoor
