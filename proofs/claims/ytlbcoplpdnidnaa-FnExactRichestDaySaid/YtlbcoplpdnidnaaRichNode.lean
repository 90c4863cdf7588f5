/- The reference's search (l22Search): what a node leaves in its struct. Conditions: those of the theorem alone. -/
import Derived.Test.YtlbcoplpdnidnaaRichLaw
import Derived.Test.YtlbcoplpdnidnaaSearch
namespace Go.Proofs.Ytlbcoplpdnidnaa
set_option linter.unusedVariables false
open Go.RowKit

set_option maxHeartbeats 1600000 in
theorem c_richNode (X : Nat) (vl vr vc vb : Value) (lost bud bound : Int) (g : Got) (t : Bool) (w : World) (hX : Blk w X 138 (#[vl, .int .i64 lost, vr, vc, vb, .int .i64 g.most, .int .i64 (bud - (g.left : Int)), .int .i64 bud, .bool g.full])) (h0 : (g.left : Int) ≤ bud) (h1 : bud ≤ 20000)
    (ht : t = decide (g.most < bound)) :
    Calls Try.prog 145 #[.pointer (some ⟨X, 0, none⟩), .int .i64 bound] w (NodeQ X 138 (#[vl, .int .i64 lost, vr, vc, vb, .int .i64 (g.nd t).most, .int .i64 (bud - ((g.nd t).left : Int)), .int .i64 bud, .bool (g.nd t).full]) (g.may t) w) := by
  have hlb := hX.lt
  obtain ⟨best, most, left, full⟩ := g
  have HX := hide hX
  simp only at hX h0 ht
  have d5 := hX.cell 5
  have d6 := hX.cell 6
  have d7 := hX.cell 7
  have d8 := hX.cell 8
  simp at d5 d6 d7 d8
  have f6 := hX.frozen 6
  have f8 := hX.frozen 8
  clear hX
  have HT := hide ht
  clear ht
  by_cases hm : bound ≤ most
  · have HF := hide (show t = false by rw [HT.out]; simp; omega)
    go_enter Try.func145, Try.ntmps145
    go_wp2
    go_ret
    exact ⟨by rw [HF.out]; simp [Got.may], gr_refl _ _, by rw [HF.out]; simpa [Got.nd, Got.may, Got.no] using HX.out⟩
  have HF := hide (show t = true by rw [HT.out]; simp; omega)
  clear HT
  by_cases hz : left = 0
  · subst hz
    rw [show (((0 : Nat) : Int)) = 0 from rfl] at *
    simp only [Int.sub_zero] at d6
    cases full
    all_goals
      go_enter Try.func145, Try.ntmps145
      go_wp2_with fail
      refine wp_region_x (by kernel_rfl) (by kernel_rfl) ?_
      repeat (go_big_quiet_step (fail))
      refine wpQuiet_nil ?_
      rintro _ ⟨q, rfl⟩
      go_wp2
      go_ret
      exact ⟨by rw [HF.out]; simp [Got.may], gr_set (gr_x (gr_refl _ _) ⟨q, rfl⟩) _ _, by have := (HX.out.x (w' := xt w q) ⟨q, rfl⟩).set_ 8 (.bool true); rw [HF.out]; simpa [Got.nd, Got.may, Got.no] using this⟩
  · have hz0 : 0 < (left : Int) := by omega
    have HZ := hide hz
    clear hz
    cases full
    · go_enter Try.func145, Try.ntmps145
      go_wp2_with fail
      refine wp_region_x (by kernel_rfl) (by kernel_rfl) ?_
      repeat (go_big_quiet_step (fail))
      refine wpQuiet_nil ?_
      rintro _ ⟨q, rfl⟩
      go_wp2
      go_ret
      exact ⟨by rw [HF.out]; simp [Got.may, HZ.out], gr_set (gr_x (gr_refl _ _) ⟨q, rfl⟩) _ _, by have := (HX.out.x (w' := xt w q) ⟨q, rfl⟩).set_ 6 (.int .i64 (bud - (left : Int) + 1)); have e1 : bud - ((left - 1 : Nat) : Int) = bud - (left : Int) + 1 := (by omega); rw [HF.out]; simpa [Got.nd, Got.may, Got.no, Got.pay, HZ.out, e1] using this⟩
    · go_enter Try.func145, Try.ntmps145
      go_wp2_with fail
      refine wp_region_x (by kernel_rfl) (by kernel_rfl) ?_
      repeat (go_big_quiet_step (fail))
      refine wpQuiet_nil ?_
      rintro _ ⟨q, rfl⟩
      go_wp2
      go_ret
      exact ⟨by rw [HF.out]; simp [Got.may], gr_x (gr_refl _ _) ⟨q, rfl⟩, by have := (HX.out.x (w' := xt w q) ⟨q, rfl⟩); rw [HF.out]; simpa [Got.nd, Got.may, Got.no] using this⟩

end Go.Proofs.Ytlbcoplpdnidnaa
