/- The law FnExactIsSeating: the walk through the law's own text. Conditions: those of the row's arguments alone. -/
import Derived.Test.YteeafdbfimdddaaSeating
namespace Go.Proofs.Yteeafdbfimdddaa
set_option linter.unusedVariables false
open Go.RowKit

set_option maxHeartbeats 1600000 in
theorem law_FnExactIsSeating (A0 : Option Addr) (c0 : Nat) (xs0 : List GroupD) (A1 : Option Addr) (c1 : Nat) (xs1 : List Int) (A2 : Option Addr) (c2 : Nat) (xs2 : List Int) (w : World) (hn0 : xs0.length ≤ maxLen) (hw0 : ∀ x ∈ xs0, x.wf) (hA0 : Rd GroupD.cells 3 w A0 xs0) (hn1 : xs1.length ≤ maxLen) (hw1 : ∀ x ∈ xs1, intWf x) (hA1 : Rd intC 1 w A1 xs1) (hn2 : xs2.length ≤ maxLen) (hw2 : ∀ x ∈ xs2, intWf x) (hA2 : Rd intC 1 w A2 xs2) :
    Calls Try.prog 5 #[.slice A0 xs0.length c0, .slice A1 xs1.length c1, .slice A2 xs2.length c2] w fun e w' => e = .returned (.bool true) ∧ IsX w w' := by
  by_cases hg1 : 1048576 < xs1.length
  · skip
    unfold maxLen at hn1
    go_enter Try.func5, Try.ntmps5
    go_wp2_with fail
    go_ret
    exact ⟨rfl, IsX.refl _⟩
  by_cases hg2 : 1048576 < xs2.length
  · skip
    unfold maxLen at hn1
    unfold maxLen at hn2
    go_enter Try.func5, Try.ntmps5
    go_wp2_with fail
    go_ret
    exact ⟨rfl, IsX.refl _⟩
  go_enter Try.func5, Try.ntmps5
  go_wp2_with fail
  refine (c_szGroupS A0 c0 xs0 1048576 w hn0 hw0 (by omega) (by omega) (hA0.x (IsX.refl w))).mono ?_
  rintro e w1 ⟨m1, rfl, e1a, e1b, e1c, hx1'⟩
  by_cases hm1 : m1 < 0
  · go_wp2_with fail
    go_ret
    exact ⟨rfl, (IsX.refl w).trans hx1'⟩
  have hn0' : xs0.length ≤ 1099511627776 := by omega
  have hn1' : xs1.length ≤ 1099511627776 := by omega
  have hn2' : xs2.length ≤ 1099511627776 := by omega
  go_wp2_with fail
  refine (c_toGroupS A0 c0 xs0 w1 hn0' (hA0.x ((IsX.refl w).trans hx1'))).mono ?_
  rintro e w2 ⟨g2, rfl, hg2, hB2, hx2'⟩
  go_wp2_with fail
  refine (c_toInt64S A1 c1 xs1 w2 hn1' (hA1.x (((IsX.refl w).trans hx1').trans hx2'))).mono ?_
  rintro e w3 ⟨g3, rfl, hg3, hB3, hx3'⟩
  go_wp2_with fail
  refine (c_toInt64S A2 c2 xs2 w3 hn2' (hA2.x ((((IsX.refl w).trans hx1').trans hx2').trans hx3'))).mono ?_
  rintro e w4 ⟨g4, rfl, hg4, hB4, hx4'⟩
  go_wp2_with fail
  refine (s_IsSeating (some ⟨g2, 0, none⟩) xs0.length xs0 (some ⟨g3, 0, none⟩) xs1.length xs1 (some ⟨g4, 0, none⟩) xs2.length xs2 w4 hn0' hw0 ((hB2.x (((IsX.refl w2).trans hx3').trans hx4')).rd GroupD.cells_len) hn1' hw1 ((hB3.x ((IsX.refl w3).trans hx4')).rd intC_len) hn2' hw2 ((hB4.x (IsX.refl w4)).rd intC_len)).mono ?_
  rintro e w5 ⟨rfl, hx5'⟩
  go_wp2_with fail
  refine (c_toGroupS A0 c0 xs0 w5 hn0' (hA0.x ((((((IsX.refl w).trans hx1').trans hx2').trans hx3').trans hx4').trans hx5'))).mono ?_
  rintro e w6 ⟨g6, rfl, hg6, hB6, hx6'⟩
  go_wp2_with fail
  refine (c_toInt64S A1 c1 xs1 w6 hn1' (hA1.x (((((((IsX.refl w).trans hx1').trans hx2').trans hx3').trans hx4').trans hx5').trans hx6'))).mono ?_
  rintro e w7 ⟨g7, rfl, hg7, hB7, hx7'⟩
  go_wp2_with fail
  refine (c_toInt64S A2 c2 xs2 w7 hn2' (hA2.x ((((((((IsX.refl w).trans hx1').trans hx2').trans hx3').trans hx4').trans hx5').trans hx6').trans hx7'))).mono ?_
  rintro e w8 ⟨g8, rfl, hg8, hB8, hx8'⟩
  go_wp2_with fail
  refine (i_IsSeating (some ⟨g6, 0, none⟩) xs0.length xs0 (some ⟨g7, 0, none⟩) xs1.length xs1 (some ⟨g8, 0, none⟩) xs2.length xs2 w8 hn0' hw0 ((hB6.x (((IsX.refl w6).trans hx7').trans hx8')).rd GroupD.cells_len) hn1' hw1 ((hB7.x ((IsX.refl w7).trans hx8')).rd intC_len) hn2' hw2 ((hB8.x (IsX.refl w8)).rd intC_len)).mono ?_
  rintro e w9 ⟨rfl, hx9'⟩
  go_wp2_with fail
  refine (c_toGroupS A0 c0 xs0 w9 hn0' (hA0.x ((((((((((IsX.refl w).trans hx1').trans hx2').trans hx3').trans hx4').trans hx5').trans hx6').trans hx7').trans hx8').trans hx9'))).mono ?_
  rintro e w10 ⟨g10, rfl, hg10, hB10, hx10'⟩
  go_wp2_with fail
  refine (c_eqGroupS (some ⟨g6, 0, none⟩) (some ⟨g10, 0, none⟩) xs0.length xs0.length xs0 w10 hn0' ((hB6.x (((((IsX.refl w6).trans hx7').trans hx8').trans hx9').trans hx10')).rd GroupD.cells_len) (hB10.rd GroupD.cells_len)).mono ?_
  rintro e w11 ⟨rfl, hx11'⟩
  go_wp2_with fail
  refine (c_toInt64S A1 c1 xs1 w11 hn1' (hA1.x ((((((((((((IsX.refl w).trans hx1').trans hx2').trans hx3').trans hx4').trans hx5').trans hx6').trans hx7').trans hx8').trans hx9').trans hx10').trans hx11'))).mono ?_
  rintro e w12 ⟨g12, rfl, hg12, hB12, hx12'⟩
  go_wp2_with fail
  refine (c_eqInt64S (some ⟨g7, 0, none⟩) (some ⟨g12, 0, none⟩) xs1.length xs1.length xs1 w12 hn1' ((hB7.x ((((((IsX.refl w7).trans hx8').trans hx9').trans hx10').trans hx11').trans hx12')).rd intC_len) (hB12.rd intC_len)).mono ?_
  rintro e w13 ⟨rfl, hx13'⟩
  go_wp2_with fail
  refine (c_toInt64S A2 c2 xs2 w13 hn2' (hA2.x ((((((((((((((IsX.refl w).trans hx1').trans hx2').trans hx3').trans hx4').trans hx5').trans hx6').trans hx7').trans hx8').trans hx9').trans hx10').trans hx11').trans hx12').trans hx13'))).mono ?_
  rintro e w14 ⟨g14, rfl, hg14, hB14, hx14'⟩
  go_wp2_with fail
  refine (c_eqInt64S (some ⟨g8, 0, none⟩) (some ⟨g14, 0, none⟩) xs2.length xs2.length xs2 w14 hn2' ((hB8.x (((((((IsX.refl w8).trans hx9').trans hx10').trans hx11').trans hx12').trans hx13').trans hx14')).rd intC_len) (hB14.rd intC_len)).mono ?_
  rintro e w15 ⟨rfl, hx15'⟩
  go_wp2_with fail
  go_ret
  exact ⟨rfl, (((((((((((((((IsX.refl w).trans hx1').trans hx2').trans hx3').trans hx4').trans hx5').trans hx6').trans hx7').trans hx8').trans hx9').trans hx10').trans hx11').trans hx12').trans hx13').trans hx14').trans hx15'⟩

end Go.Proofs.Yteeafdbfimdddaa
