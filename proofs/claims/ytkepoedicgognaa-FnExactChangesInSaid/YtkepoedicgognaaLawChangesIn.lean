/- The law FnExactChangesIn: the walk through the law's own text. Conditions: those of the row's arguments alone. -/
import Derived.Test.YtkepoedicgognaaChangesFns
namespace Go.Proofs.Ytkepoedicgognaa
set_option linter.unusedVariables false
open Go.RowKit

set_option maxHeartbeats 1600000 in
theorem law_FnExactChangesIn (A0 : Option Addr) (c0 : Nat) (xs0 : List OfferD) (A1 : Option Addr) (c1 : Nat) (xs1 : List Int) (w : World) (hn0 : xs0.length ≤ maxLen) (hw0 : ∀ x ∈ xs0, x.wf) (hA0 : Rd OfferD.cells 5 w A0 xs0) (hn1 : xs1.length ≤ maxLen) (hw1 : ∀ x ∈ xs1, intWf x) (hA1 : Rd intC 1 w A1 xs1) :
    Calls Try.prog 6 #[.slice A0 xs0.length c0, .slice A1 xs1.length c1] w fun e w' => e = .returned (.bool true) ∧ IsX w w' := by
  by_cases hg1 : 1048576 < xs1.length
  · skip
    unfold maxLen at hn1
    go_enter Try.func6, Try.ntmps6
    go_wp2_with fail
    go_ret
    exact ⟨rfl, IsX.refl _⟩
  go_enter Try.func6, Try.ntmps6
  go_wp2_with fail
  refine (c_szOfferS A0 c0 xs0 1048576 w hn0 hw0 (by omega) (by omega) (hA0.x (IsX.refl w))).mono ?_
  rintro e w1 ⟨m1, rfl, e1a, e1b, e1c, hx1'⟩
  by_cases hm1 : m1 < 0
  · go_wp2_with fail
    go_ret
    exact ⟨rfl, (IsX.refl w).trans hx1'⟩
  have hn0' : xs0.length ≤ 1099511627776 := by omega
  have hn1' : xs1.length ≤ 1099511627776 := by omega
  go_wp2_with fail
  refine (c_toOfferS A0 c0 xs0 w1 hn0' (hA0.x ((IsX.refl w).trans hx1'))).mono ?_
  rintro e w2 ⟨g2, rfl, hg2, hB2, hx2'⟩
  go_wp2_with fail
  refine (c_toInt64S A1 c1 xs1 w2 hn1' (hA1.x (((IsX.refl w).trans hx1').trans hx2'))).mono ?_
  rintro e w3 ⟨g3, rfl, hg3, hB3, hx3'⟩
  go_wp2_with fail
  refine (s_ChangesIn (some ⟨g2, 0, none⟩) xs0.length xs0 (some ⟨g3, 0, none⟩) xs1.length xs1 w3 hn0' hw0 ((hB2.x ((IsX.refl w2).trans hx3')).rd OfferD.cells_len) hn1' hw1 ((hB3.x (IsX.refl w3)).rd intC_len)).mono ?_
  rintro e w4 ⟨rfl, hx4'⟩
  go_wp2_with fail
  refine (c_toOfferS A0 c0 xs0 w4 hn0' (hA0.x (((((IsX.refl w).trans hx1').trans hx2').trans hx3').trans hx4'))).mono ?_
  rintro e w5 ⟨g5, rfl, hg5, hB5, hx5'⟩
  go_wp2_with fail
  refine (c_toInt64S A1 c1 xs1 w5 hn1' (hA1.x ((((((IsX.refl w).trans hx1').trans hx2').trans hx3').trans hx4').trans hx5'))).mono ?_
  rintro e w6 ⟨g6, rfl, hg6, hB6, hx6'⟩
  go_wp2_with fail
  refine (i_ChangesIn (some ⟨g5, 0, none⟩) xs0.length xs0 (some ⟨g6, 0, none⟩) xs1.length xs1 w6 hn0' hw0 ((hB5.x ((IsX.refl w5).trans hx6')).rd OfferD.cells_len) hn1' hw1 ((hB6.x (IsX.refl w6)).rd intC_len)).mono ?_
  rintro e w7 ⟨rfl, hx7'⟩
  go_wp2_with fail
  refine (c_toOfferS A0 c0 xs0 w7 hn0' (hA0.x ((((((((IsX.refl w).trans hx1').trans hx2').trans hx3').trans hx4').trans hx5').trans hx6').trans hx7'))).mono ?_
  rintro e w8 ⟨g8, rfl, hg8, hB8, hx8'⟩
  go_wp2_with fail
  refine (c_eqOfferS (some ⟨g5, 0, none⟩) (some ⟨g8, 0, none⟩) xs0.length xs0.length xs0 w8 hn0' ((hB5.x ((((IsX.refl w5).trans hx6').trans hx7').trans hx8')).rd OfferD.cells_len) (hB8.rd OfferD.cells_len)).mono ?_
  rintro e w9 ⟨rfl, hx9'⟩
  go_wp2_with fail
  refine (c_toInt64S A1 c1 xs1 w9 hn1' (hA1.x ((((((((((IsX.refl w).trans hx1').trans hx2').trans hx3').trans hx4').trans hx5').trans hx6').trans hx7').trans hx8').trans hx9'))).mono ?_
  rintro e w10 ⟨g10, rfl, hg10, hB10, hx10'⟩
  go_wp2_with fail
  refine (c_eqInt64S (some ⟨g6, 0, none⟩) (some ⟨g10, 0, none⟩) xs1.length xs1.length xs1 w10 hn1' ((hB6.x (((((IsX.refl w6).trans hx7').trans hx8').trans hx9').trans hx10')).rd intC_len) (hB10.rd intC_len)).mono ?_
  rintro e w11 ⟨rfl, hx11'⟩
  go_wp2_with fail
  go_ret
  exact ⟨rfl, (((((((((((IsX.refl w).trans hx1').trans hx2').trans hx3').trans hx4').trans hx5').trans hx6').trans hx7').trans hx8').trans hx9').trans hx10').trans hx11'⟩

end Go.Proofs.Ytkepoedicgognaa
