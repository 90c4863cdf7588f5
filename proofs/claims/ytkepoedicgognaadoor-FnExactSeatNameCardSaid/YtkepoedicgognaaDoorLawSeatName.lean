/- The law FnExactSeatName: the walk through the law's own text. Conditions: those of the row's arguments alone. -/
import Derived.Test.YtkepoedicgognaaDoorSeatNameFns
namespace Go.Proofs.YtkepoedicgognaaDoor
set_option linter.unusedVariables false
open Go.RowKit

set_option maxHeartbeats 1600000 in
theorem law_FnExactSeatName (A0 : Option Addr) (c0 : Nat) (xs0 : List RingD) (n1 : Int) (w : World) (hn0 : xs0.length ≤ maxLen) (hw0 : ∀ x ∈ xs0, x.wf) (hA0 : Rd RingD.cells 5 w A0 xs0) (hb1 : intWf n1) :
    Calls Tryd.prog 7 #[.slice A0 xs0.length c0, .int .i64 n1] w fun e w' => e = .returned (.bool true) ∧ IsX w w' := by
  go_enter Tryd.func7, Tryd.ntmps7
  go_wp2_with fail
  refine (c_szRingS A0 xs0.length c0 1048576 w hn0 (by omega) (by omega)).mono ?_
  rintro e w1 ⟨m1, rfl, e1a, e1b, e1c, hx1'⟩
  by_cases hm1 : m1 < 0
  · go_wp2_with fail
    go_ret
    exact ⟨rfl, (IsX.refl w).trans hx1'⟩
  have hn0' : xs0.length ≤ 1099511627776 := by omega
  go_wp2_with fail
  refine (c_toRingS A0 c0 xs0 w1 hn0' (hA0.x ((IsX.refl w).trans hx1'))).mono ?_
  rintro e w2 ⟨g2, rfl, hg2, hB2, hx2'⟩
  go_wp2_with fail
  refine (s_SeatName (some ⟨g2, 0, none⟩) xs0.length xs0 n1 w2 hn0' hw0 ((hB2.x (IsX.refl w2)).rd RingD.cells_len) hb1).mono ?_
  rintro e w3 ⟨rfl, hx3'⟩
  go_wp2_with fail
  refine (c_toRingS A0 c0 xs0 w3 hn0' (hA0.x ((((IsX.refl w).trans hx1').trans hx2').trans hx3'))).mono ?_
  rintro e w4 ⟨g4, rfl, hg4, hB4, hx4'⟩
  go_wp2_with fail
  refine (i_SeatName (some ⟨g4, 0, none⟩) xs0.length xs0 n1 w4 hn0' hw0 ((hB4.x (IsX.refl w4)).rd RingD.cells_len) hb1).mono ?_
  rintro e w5 ⟨rfl, hx5'⟩
  go_wp2_with fail
  refine (c_toRingS A0 c0 xs0 w5 hn0' (hA0.x ((((((IsX.refl w).trans hx1').trans hx2').trans hx3').trans hx4').trans hx5'))).mono ?_
  rintro e w6 ⟨g6, rfl, hg6, hB6, hx6'⟩
  go_wp2_with fail
  refine (c_eqRingS (some ⟨g4, 0, none⟩) (some ⟨g6, 0, none⟩) xs0.length xs0.length xs0 w6 hn0' ((hB4.x (((IsX.refl w4).trans hx5').trans hx6')).rd RingD.cells_len) (hB6.rd RingD.cells_len)).mono ?_
  rintro e w7 ⟨rfl, hx7'⟩
  go_wp2_with fail
  go_ret
  exact ⟨rfl, (((((((IsX.refl w).trans hx1').trans hx2').trans hx3').trans hx4').trans hx5').trans hx6').trans hx7'⟩

end Go.Proofs.YtkepoedicgognaaDoor
