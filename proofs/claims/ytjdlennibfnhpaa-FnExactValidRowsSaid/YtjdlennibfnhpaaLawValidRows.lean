/- The law FnExactValidRows: the walk through the law's own text. Conditions: those of the row's arguments alone. -/
import Derived.Test.YtjdlennibfnhpaaPlaces
namespace Go.Proofs.Ytjdlennibfnhpaa
set_option linter.unusedVariables false
open Go.RowKit

set_option maxHeartbeats 1600000 in
theorem law_FnExactValidRows (A0 : Option Addr) (c0 : Nat) (xs0 : List Int) (w : World) (hn0 : xs0.length ≤ maxLen) (hw0 : ∀ x ∈ xs0, intWf x) (hA0 : Rd intC 1 w A0 xs0) :
    Calls Try.prog 3 #[.slice A0 xs0.length c0] w fun e w' => e = .returned (.bool true) ∧ IsX w w' := by
  by_cases hg0 : 1048576 < xs0.length
  · skip
    unfold maxLen at hn0
    go_enter Try.func3, Try.ntmps3
    go_wp2_with fail
    go_ret
    exact ⟨rfl, IsX.refl _⟩
  go_enter Try.func3, Try.ntmps3
  have hn0' : xs0.length ≤ 1099511627776 := by omega
  go_wp2_with fail
  refine (c_toInt64S A0 c0 xs0 w hn0' (hA0.x (IsX.refl w))).mono ?_
  rintro e w1 ⟨g1, rfl, hg1, hB1, hx1'⟩
  go_wp2_with fail
  refine (c_specValidRows (some ⟨g1, 0, none⟩) xs0.length xs0 w1 hn0' hw0 ((hB1.x (IsX.refl w1)).rd intC_len)).mono ?_
  rintro e w2 ⟨rfl, hx2'⟩
  go_wp2_with fail
  refine (c_toInt64S A0 c0 xs0 w2 hn0' (hA0.x (((IsX.refl w).trans hx1').trans hx2'))).mono ?_
  rintro e w3 ⟨g3, rfl, hg3, hB3, hx3'⟩
  go_wp2_with fail
  refine (c_ValidRows (some ⟨g3, 0, none⟩) xs0.length xs0 w3 hn0' hw0 ((hB3.x (IsX.refl w3)).rd intC_len)).mono ?_
  rintro e w4 ⟨rfl, hx4'⟩
  go_wp2_with fail
  refine (c_toInt64S A0 c0 xs0 w4 hn0' (hA0.x (((((IsX.refl w).trans hx1').trans hx2').trans hx3').trans hx4'))).mono ?_
  rintro e w5 ⟨g5, rfl, hg5, hB5, hx5'⟩
  go_wp2_with fail
  refine (c_eqInt64S (some ⟨g3, 0, none⟩) (some ⟨g5, 0, none⟩) xs0.length xs0.length xs0 w5 hn0' ((hB3.x (((IsX.refl w3).trans hx4').trans hx5')).rd intC_len) (hB5.rd intC_len)).mono ?_
  rintro e w6 ⟨rfl, hx6'⟩
  go_wp2_with fail
  go_ret
  exact ⟨rfl, ((((((IsX.refl w).trans hx1').trans hx2').trans hx3').trans hx4').trans hx5').trans hx6'⟩

end Go.Proofs.Ytjdlennibfnhpaa
