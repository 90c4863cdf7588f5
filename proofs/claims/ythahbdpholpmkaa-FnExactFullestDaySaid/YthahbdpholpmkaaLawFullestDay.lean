/- The law FnExactFullestDay: the walk through the law's own text. Conditions: those of the row's arguments alone. -/
import Derived.Test.YthahbdpholpmkaaMeetDays
namespace Go.Proofs.Ythahbdpholpmkaa
set_option linter.unusedVariables false
open Go.RowKit

set_option maxHeartbeats 1600000 in
theorem law_FnExactFullestDay (A0 : Option Addr) (c0 : Nat) (xs0 : List PersonD) (A1 : Option Addr) (c1 : Nat) (xs1 : List ByteArray) (n2 : Int) (n3 : Int) (w : World) (hn0 : xs0.length ≤ maxLen) (hw0 : ∀ x ∈ xs0, x.wf) (hA0 : RdPerson 0 w A0 xs0) (hn1 : xs1.length ≤ maxLen) (hw1 : ∀ x ∈ xs1, strWf x) (hA1 : Rd strC 1 w A1 xs1) (hb2 : intWf n2) (hb3 : intWf n3) :
    Calls Try.prog 7 #[.slice A0 xs0.length c0, .slice A1 xs1.length c1, .int .i64 n2, .int .i64 n3] w fun e w' => e = .returned (.bool true) ∧ IsX w w' := by
  go_enter Try.func7, Try.ntmps7
  go_wp2_with fail
  refine (c_szPersonS A0 c0 xs0 1048576 w hn0 hw0 (by omega) (by omega) (hA0.x (IsX.refl w))).mono ?_
  rintro e w1 ⟨m1, rfl, e1a, e1b, e1c, hx1'⟩
  by_cases hm1 : m1 < 0
  · go_wp2_with fail
    go_ret
    exact ⟨rfl, (IsX.refl w).trans hx1'⟩
  have hs0' : ∀ x ∈ xs0, x.small 1099511627776 := fun x hx => by
    rcases e1c with h | ⟨_, h⟩
    · omega
    · have := h x hx
      simp only [PersonD.small] at this ⊢
      omega
  go_wp2_with fail
  refine (c_szStringS A1 c1 xs1 m1 w1 hn1 hw1 (by omega) (by omega) (hA1.x ((IsX.refl w).trans hx1'))).mono ?_
  rintro e w2 ⟨m2, rfl, e2a, e2b, e2c, hx2'⟩
  by_cases hm2 : m2 < 0
  · go_wp2_with fail
    go_ret
    exact ⟨rfl, ((IsX.refl w).trans hx1').trans hx2'⟩
  have hn0' : xs0.length ≤ 1099511627776 := by omega
  have hn1' : xs1.length ≤ 1099511627776 := by omega
  go_wp2_with fail
  refine (c_toPersonS A0 c0 xs0 w2 hn0' hs0' (hA0.x (((IsX.refl w).trans hx1').trans hx2'))).mono ?_
  rintro e w3 ⟨g3, rfl, hg3, hB3, hx3'⟩
  go_wp2_with fail
  refine (c_toStringS A1 c1 xs1 w3 hn1' (hA1.x ((((IsX.refl w).trans hx1').trans hx2').trans hx3'))).mono ?_
  rintro e w4 ⟨g4, rfl, hg4, hB4, hx4'⟩
  go_wp2_with fail
  refine (s_FullestDay (some ⟨g3, 0, none⟩) xs0.length xs0 (some ⟨g4, 0, none⟩) xs1.length xs1 n2 n3 w4 hn0' hw0 hs0' ((hB3.x ((IsX.refl w3).trans hx4')).rd) hn1' hw1 ((hB4.x (IsX.refl w4)).rd strC_len) hb2 hb3).mono ?_
  rintro e w5 ⟨rfl, hx5'⟩
  go_wp2_with fail
  refine (c_toPersonS A0 c0 xs0 w5 hn0' hs0' (hA0.x ((((((IsX.refl w).trans hx1').trans hx2').trans hx3').trans hx4').trans hx5'))).mono ?_
  rintro e w6 ⟨g6, rfl, hg6, hB6, hx6'⟩
  go_wp2_with fail
  refine (c_toStringS A1 c1 xs1 w6 hn1' (hA1.x (((((((IsX.refl w).trans hx1').trans hx2').trans hx3').trans hx4').trans hx5').trans hx6'))).mono ?_
  rintro e w7 ⟨g7, rfl, hg7, hB7, hx7'⟩
  go_wp2_with fail
  refine (i_FullestDay (some ⟨g6, 0, none⟩) xs0.length xs0 (some ⟨g7, 0, none⟩) xs1.length xs1 n2 n3 w7 hn0' hw0 hs0' ((hB6.x ((IsX.refl w6).trans hx7')).rd) hn1' hw1 ((hB7.x (IsX.refl w7)).rd strC_len) hb2 hb3).mono ?_
  rintro e w8 ⟨rfl, hx8'⟩
  go_wp2_with fail
  refine (c_toPersonS A0 c0 xs0 w8 hn0' hs0' (hA0.x (((((((((IsX.refl w).trans hx1').trans hx2').trans hx3').trans hx4').trans hx5').trans hx6').trans hx7').trans hx8'))).mono ?_
  rintro e w9 ⟨g9, rfl, hg9, hB9, hx9'⟩
  go_wp2_with fail
  refine (c_eqPersonS (some ⟨g6, 0, none⟩) (some ⟨g9, 0, none⟩) xs0.length xs0.length xs0 w9 hn0' hs0' ((hB6.x ((((IsX.refl w6).trans hx7').trans hx8').trans hx9')).rd) (hB9.rd)).mono ?_
  rintro e w10 ⟨rfl, hx10'⟩
  go_wp2_with fail
  refine (c_toStringS A1 c1 xs1 w10 hn1' (hA1.x (((((((((((IsX.refl w).trans hx1').trans hx2').trans hx3').trans hx4').trans hx5').trans hx6').trans hx7').trans hx8').trans hx9').trans hx10'))).mono ?_
  rintro e w11 ⟨g11, rfl, hg11, hB11, hx11'⟩
  go_wp2_with fail
  refine (c_eqStringS (some ⟨g7, 0, none⟩) (some ⟨g11, 0, none⟩) xs1.length xs1.length xs1 w11 hn1' ((hB7.x (((((IsX.refl w7).trans hx8').trans hx9').trans hx10').trans hx11')).rd strC_len) (hB11.rd strC_len)).mono ?_
  rintro e w12 ⟨rfl, hx12'⟩
  go_wp2_with fail
  go_ret
  exact ⟨rfl, ((((((((((((IsX.refl w).trans hx1').trans hx2').trans hx3').trans hx4').trans hx5').trans hx6').trans hx7').trans hx8').trans hx9').trans hx10').trans hx11').trans hx12'⟩

end Go.Proofs.Ythahbdpholpmkaa
