/- The law FnExactBookSeats: the walk through the law's own text. Conditions: those of the row's arguments alone. -/
import Derived.Test.YtkepoedicgognaaBookFns
namespace Go.Proofs.Ytkepoedicgognaa
set_option linter.unusedVariables false
open Go.RowKit

set_option maxRecDepth 100000 in
set_option maxHeartbeats 1600000 in
theorem law_FnExactBookSeats (A0 : Option Addr) (c0 : Nat) (xs0 : List RingD) (A1 : Option Addr) (c1 : Nat) (xs1 : List Int) (A2 : Option Addr) (c2 : Nat) (xs2 : List Int) (w : World) (hn0 : xs0.length ≤ maxLen) (hw0 : ∀ x ∈ xs0, x.wf) (hA0 : Rd RingD.cells 5 w A0 xs0) (hn1 : xs1.length ≤ maxLen) (hw1 : ∀ x ∈ xs1, intWf x) (hA1 : Rd intC 1 w A1 xs1) (hn2 : xs2.length ≤ maxLen) (hw2 : ∀ x ∈ xs2, intWf x) (hA2 : Rd intC 1 w A2 xs2) :
    Calls Try.prog 8 #[.slice A0 xs0.length c0, .slice A1 xs1.length c1, .slice A2 xs2.length c2] w fun e w' => e = .returned (.bool true) ∧ IsX w w' := by
  by_cases hg1 : 1048576 < xs1.length
  · skip
    unfold maxLen at hn1
    go_enter Try.func8, Try.ntmps8
    go_wp2_with fail
    go_ret
    exact ⟨rfl, IsX.refl _⟩
  by_cases hg2 : 1048576 < xs2.length
  · skip
    unfold maxLen at hn1
    unfold maxLen at hn2
    go_enter Try.func8, Try.ntmps8
    go_wp2_with fail
    go_ret
    exact ⟨rfl, IsX.refl _⟩
  go_enter Try.func8, Try.ntmps8
  go_wp2_with fail
  refine (c_szRingS A0 xs0.length c0 1048576 w hn0 (by omega) (by omega)).mono ?_
  rintro e w1 ⟨m1, rfl, e1a, e1b, e1c, hx1'⟩
  by_cases hm1 : m1 < 0
  · go_wp2_with fail
    go_ret
    exact ⟨rfl, (IsX.refl w).trans hx1'⟩
  have hn0' : xs0.length ≤ 1099511627776 := by omega
  have hn1' : xs1.length ≤ 1099511627776 := by omega
  have hn2' : xs2.length ≤ 1099511627776 := by omega
  go_wp2_with fail
  refine (c_toRingS A0 c0 xs0 w1 hn0' (hA0.x ((IsX.refl w).trans hx1'))).mono ?_
  rintro e w2 ⟨g2, rfl, hg2, hB2, hx2'⟩
  go_wp2_with fail
  refine (c_toInt64S A1 c1 xs1 w2 hn1' (hA1.x (((IsX.refl w).trans hx1').trans hx2'))).mono ?_
  rintro e w3 ⟨g3, rfl, hg3, hB3, hx3'⟩
  go_wp2_with fail
  refine (c_toInt64S A2 c2 xs2 w3 hn2' (hA2.x ((((IsX.refl w).trans hx1').trans hx2').trans hx3'))).mono ?_
  rintro e w4 ⟨g4, rfl, hg4, hB4, hx4'⟩
  go_wp2_with fail
  refine (s_BookSeats (some ⟨g2, 0, none⟩) xs0.length xs0 (some ⟨g3, 0, none⟩) xs1.length xs1 (some ⟨g4, 0, none⟩) xs2.length xs2 w4 hn0' hw0 ((hB2.x (((IsX.refl w2).trans hx3').trans hx4')).rd RingD.cells_len) hn1' hw1 ((hB3.x ((IsX.refl w3).trans hx4')).rd intC_len) hn2' hw2 ((hB4.x (IsX.refl w4)).rd intC_len)).mono ?_
  rintro e w5 ⟨AR5, cR5, rfl, hR5, hx5'⟩
  go_wp2_with fail
  refine (c_toRingS A0 c0 xs0 w5 hn0' (hA0.x ((((((IsX.refl w).trans hx1').trans hx2').trans hx3').trans hx4').trans hx5'))).mono ?_
  rintro e w6 ⟨g6, rfl, hg6, hB6, hx6'⟩
  go_wp2_with fail
  refine (c_toInt64S A1 c1 xs1 w6 hn1' (hA1.x (((((((IsX.refl w).trans hx1').trans hx2').trans hx3').trans hx4').trans hx5').trans hx6'))).mono ?_
  rintro e w7 ⟨g7, rfl, hg7, hB7, hx7'⟩
  go_wp2_with fail
  refine (c_toInt64S A2 c2 xs2 w7 hn2' (hA2.x ((((((((IsX.refl w).trans hx1').trans hx2').trans hx3').trans hx4').trans hx5').trans hx6').trans hx7'))).mono ?_
  rintro e w8 ⟨g8, rfl, hg8, hB8, hx8'⟩
  go_wp2_with fail
  refine (i_BookSeats (some ⟨g6, 0, none⟩) xs0.length xs0 (some ⟨g7, 0, none⟩) xs1.length xs1 (some ⟨g8, 0, none⟩) xs2.length xs2 w8 hn0' hw0 ((hB6.x (((IsX.refl w6).trans hx7').trans hx8')).rd RingD.cells_len) hn1' hw1 ((hB7.x ((IsX.refl w7).trans hx8')).rd intC_len) hn2' hw2 ((hB8.x (IsX.refl w8)).rd intC_len)).mono ?_
  rintro e w9 ⟨AR9, cR9, rfl, hR9, hx9'⟩
  have hzl := bookZ_len xs0 xs1 xs2
  go_wp2_with fail
  refine (c_eqInt64S AR9 AR5 cR9 cR5 (bookZ xs0 xs1 xs2) w9 hzl ((hR9).rd (by omega) intC_len rfl) ((hR5.x (((((IsX.refl w5).trans hx6').trans hx7').trans hx8').trans hx9')).rd (by omega) intC_len rfl)).mono ?_
  rintro e w10 ⟨rfl, hx10'⟩
  go_wp2_with fail
  refine (c_toRingS A0 c0 xs0 w10 hn0' (hA0.x (((((((((((IsX.refl w).trans hx1').trans hx2').trans hx3').trans hx4').trans hx5').trans hx6').trans hx7').trans hx8').trans hx9').trans hx10'))).mono ?_
  rintro e w11 ⟨g11, rfl, hg11, hB11, hx11'⟩
  go_wp2_with fail
  refine (c_eqRingS (some ⟨g6, 0, none⟩) (some ⟨g11, 0, none⟩) xs0.length xs0.length xs0 w11 hn0' ((hB6.x ((((((IsX.refl w6).trans hx7').trans hx8').trans hx9').trans hx10').trans hx11')).rd RingD.cells_len) (hB11.rd RingD.cells_len)).mono ?_
  rintro e w12 ⟨rfl, hx12'⟩
  go_wp2_with fail
  refine (c_toInt64S A1 c1 xs1 w12 hn1' (hA1.x (((((((((((((IsX.refl w).trans hx1').trans hx2').trans hx3').trans hx4').trans hx5').trans hx6').trans hx7').trans hx8').trans hx9').trans hx10').trans hx11').trans hx12'))).mono ?_
  rintro e w13 ⟨g13, rfl, hg13, hB13, hx13'⟩
  go_wp2_with fail
  refine (c_eqInt64S (some ⟨g7, 0, none⟩) (some ⟨g13, 0, none⟩) xs1.length xs1.length xs1 w13 hn1' ((hB7.x (((((((IsX.refl w7).trans hx8').trans hx9').trans hx10').trans hx11').trans hx12').trans hx13')).rd intC_len) (hB13.rd intC_len)).mono ?_
  rintro e w14 ⟨rfl, hx14'⟩
  go_wp2_with fail
  refine (c_toInt64S A2 c2 xs2 w14 hn2' (hA2.x (((((((((((((((IsX.refl w).trans hx1').trans hx2').trans hx3').trans hx4').trans hx5').trans hx6').trans hx7').trans hx8').trans hx9').trans hx10').trans hx11').trans hx12').trans hx13').trans hx14'))).mono ?_
  rintro e w15 ⟨g15, rfl, hg15, hB15, hx15'⟩
  go_wp2_with fail
  refine (c_eqInt64S (some ⟨g8, 0, none⟩) (some ⟨g15, 0, none⟩) xs2.length xs2.length xs2 w15 hn2' ((hB8.x ((((((((IsX.refl w8).trans hx9').trans hx10').trans hx11').trans hx12').trans hx13').trans hx14').trans hx15')).rd intC_len) (hB15.rd intC_len)).mono ?_
  rintro e w16 ⟨rfl, hx16'⟩
  have HW := hide (((((((((((((((((IsX.refl w).trans hx1').trans hx2').trans hx3').trans hx4').trans hx5').trans hx6').trans hx7').trans hx8').trans hx9').trans hx10').trans hx11').trans hx12').trans hx13').trans hx14').trans hx15').trans hx16')
  have HS := hide ((((((((((((IsX.refl w5).trans hx6').trans hx7').trans hx8').trans hx9').trans hx10').trans hx11').trans hx12').trans hx13').trans hx14').trans hx15').trans hx16')
  have HG : Hid (Own intC 1 2 w16 w8.heap.size _ _) := hide (hR9.x ((((((((IsX.refl w9).trans hx10').trans hx11').trans hx12').trans hx13').trans hx14').trans hx15').trans hx16'))
  have HRS := hide hR5
  have HX0 := hide ((hB6.x (((((((((((IsX.refl w6).trans hx7').trans hx8').trans hx9').trans hx10').trans hx11').trans hx12').trans hx13').trans hx14').trans hx15').trans hx16')).own' RingD.cells_len (Nat.le_refl g6) (by unfold maxLen; omega))
  have HL0 : Hid (w5.heap.size ≤ g6 ∧ g6 < w8.heap.size) := by
    unfold Hid
    have z1 := hB6.lt
    have y6 := hx6'.size; have y7 := hx7'.size; have y8 := hx8'.size
    omega
  have HX1 := hide ((hB7.x ((((((((((IsX.refl w7).trans hx8').trans hx9').trans hx10').trans hx11').trans hx12').trans hx13').trans hx14').trans hx15').trans hx16')).own' intC_len (Nat.le_refl g7) (by unfold maxLen; omega))
  have HL1 : Hid (w5.heap.size ≤ g7 ∧ g7 < w8.heap.size) := by
    unfold Hid
    have z1 := hB7.lt
    have y6 := hx6'.size; have y7 := hx7'.size; have y8 := hx8'.size
    omega
  have HX2 := hide ((hB8.x (((((((((IsX.refl w8).trans hx9').trans hx10').trans hx11').trans hx12').trans hx13').trans hx14').trans hx15').trans hx16')).own' intC_len (Nat.le_refl g8) (by unfold maxLen; omega))
  have HL2 : Hid (w5.heap.size ≤ g8 ∧ g8 < w8.heap.size) := by
    unfold Hid
    have z1 := hB8.lt
    have y6 := hx6'.size; have y7 := hx7'.size; have y8 := hx8'.size
    omega
  have HN0_1 : Hid (g6 ≠ g7) := by
    unfold Hid
    have z1 := hB6.lt
    have z2 := hB7.lt
    have y6 := hx6'.size; have y7 := hx7'.size; have y8 := hx8'.size
    omega
  have HN0_2 : Hid (g6 ≠ g8) := by
    unfold Hid
    have z1 := hB6.lt
    have z2 := hB8.lt
    have y6 := hx6'.size; have y7 := hx7'.size; have y8 := hx8'.size
    omega
  have HN1_2 : Hid (g7 ≠ g8) := by
    unfold Hid
    have z1 := hB7.lt
    have z2 := hB8.lt
    have y6 := hx6'.size; have y7 := hx7'.size; have y8 := hx8'.size
    omega
  have HZ0 : Hid (w.heap.size ≤ w5.heap.size) := hide ((((((IsX.refl w).trans hx1').trans hx2').trans hx3').trans hx4').trans hx5').size
  have HZ1 : Hid (w5.heap.size ≤ w8.heap.size) := hide ((((IsX.refl w5).trans hx6').trans hx7').trans hx8').size
  clear hx1' hx2' hx3' hx4' hx5' hx6' hx7' hx8' hx9' hx10' hx11' hx12' hx13' hx14' hx15' hx16'
  clear hR5 hR9
  go_wp2_with fail
  refine (c_markRingS (some ⟨g6, 0, none⟩) xs0.length xs0.length g6 _ _ w16 hn0' (by omega) (by omega) HX0.out).mono ?_
  rintro e w17 ⟨rfl, L17, _, _, hgr⟩
  replace hgr : _root_.Go.World.grownBy w16 w17 (some g6) := hgr
  replace HW := hide (IsX.grown HW.out hgr (by intro k hk; injection hk with hk; have := HL0.out; have := HZ0.out; omega))
  replace HS := hide (IsX.grown HS.out hgr (by intro k hk; injection hk with hk; have := HL0.out; omega))
  replace HG : Hid (Own intC 1 2 w17 w8.heap.size _ _) := hide (own_under HG.out hgr HL0.out.2)
  replace HX1 := hide (own_kept_ne HX1.out hgr (by exact fun e => HN0_1.out e.symm))
  replace HX2 := hide (own_kept_ne HX2.out hgr (by exact fun e => HN0_2.out e.symm))
  clear hgr
  go_wp2_with fail
  refine (c_markInt64S (some ⟨g7, 0, none⟩) xs1.length xs1.length g7 _ _ w17 hn1' (by omega) (by omega) HX1.out).mono ?_
  rintro e w18 ⟨rfl, L18, _, _, hgr⟩
  replace hgr : _root_.Go.World.grownBy w17 w18 (some g7) := hgr
  replace HW := hide (IsX.grown HW.out hgr (by intro k hk; injection hk with hk; have := HL1.out; have := HZ0.out; omega))
  replace HS := hide (IsX.grown HS.out hgr (by intro k hk; injection hk with hk; have := HL1.out; omega))
  replace HG : Hid (Own intC 1 2 w18 w8.heap.size _ _) := hide (own_under HG.out hgr HL1.out.2)
  replace HX2 := hide (own_kept_ne HX2.out hgr (by exact fun e => HN1_2.out e.symm))
  clear hgr
  go_wp2_with fail
  refine (c_markInt64S (some ⟨g8, 0, none⟩) xs2.length xs2.length g8 _ _ w18 hn2' (by omega) (by omega) HX2.out).mono ?_
  rintro e w19 ⟨rfl, L19, _, _, hgr⟩
  replace hgr : _root_.Go.World.grownBy w18 w19 (some g8) := hgr
  replace HW := hide (IsX.grown HW.out hgr (by intro k hk; injection hk with hk; have := HL2.out; have := HZ0.out; omega))
  replace HS := hide (IsX.grown HS.out hgr (by intro k hk; injection hk with hk; have := HL2.out; omega))
  replace HG : Hid (Own intC 1 2 w19 w8.heap.size _ _) := hide (own_under HG.out hgr HL2.out.2)
  clear hgr
  go_wp2_with fail
  refine (c_eqInt64S AR9 AR5 cR9 cR5 (bookZ xs0 xs1 xs2) w19 hzl (Own.rd (cells := intC) (k := 1) (t := 2) (by omega) intC_len HG.out rfl) ((HRS.out.x HS.out).rd (by omega) intC_len rfl)).mono ?_
  rintro e w20 ⟨rfl, hxx⟩
  replace HW := hide (HW.out.trans hxx)
  replace HS := hide (HS.out.trans hxx)
  replace HG := hide (own_x HG.out hxx)
  clear hxx
  go_wp2_with fail
  refine (c_markInt64S AR9 cR9 ((bookZ xs0 xs1 xs2)).length w8.heap.size _ 1 w20 hzl (by omega) (by omega) HG.out).mono ?_
  rintro e w21 ⟨rfl, LG, hO, hM, hgr⟩
  replace HW := hide (IsX.grown HW.out hgr (by intro k hk; have := (HG.out.lt k hk).1; have := HZ0.out; have := HZ1.out; omega))
  replace HS := hide (IsX.grown HS.out hgr (by intro k hk; have := (HG.out.lt k hk).1; have := HZ1.out; omega))
  replace HG := hide hO
  have HM := hide hM
  clear hgr hO hM
  go_wp2_with fail
  refine (c_heldInt64S AR9 cR9 ((bookZ xs0 xs1 xs2)).length w8.heap.size LG 1 w21 hzl (by omega) (by omega) HG.out HM.out).mono ?_
  rintro e w22 ⟨rfl, hxx⟩
  replace HW := hide (HW.out.trans hxx)
  replace HS := hide (HS.out.trans hxx)
  replace HG := hide (own_x HG.out hxx)
  clear hxx
  go_wp2_with fail
  refine (c_toRingS A0 c0 xs0 w22 hn0' (hA0.x (HW.out))).mono ?_
  rintro e w23 ⟨g23, rfl, hg23, hB23, hx23'⟩
  replace HW := hide (HW.out.trans hx23')
  replace HS := hide (HS.out.trans hx23')
  replace HG := hide (own_x HG.out hx23')
  go_wp2_with fail
  refine (c_toInt64S A1 c1 xs1 w23 hn1' (hA1.x (HW.out))).mono ?_
  rintro e w24 ⟨g24, rfl, hg24, hB24, hx24'⟩
  replace HW := hide (HW.out.trans hx24')
  replace HS := hide (HS.out.trans hx24')
  replace HG := hide (own_x HG.out hx24')
  go_wp2_with fail
  refine (c_toInt64S A2 c2 xs2 w24 hn2' (hA2.x (HW.out))).mono ?_
  rintro e w25 ⟨g25, rfl, hg25, hB25, hx25'⟩
  replace HW := hide (HW.out.trans hx25')
  replace HS := hide (HS.out.trans hx25')
  replace HG := hide (own_x HG.out hx25')
  go_wp2_with fail
  refine (i_BookSeats (some ⟨g23, 0, none⟩) xs0.length xs0 (some ⟨g24, 0, none⟩) xs1.length xs1 (some ⟨g25, 0, none⟩) xs2.length xs2 w25 hn0' hw0 ((hB23.x (((IsX.refl w23).trans hx24').trans hx25')).rd RingD.cells_len) hn1' hw1 ((hB24.x ((IsX.refl w24).trans hx25')).rd intC_len) hn2' hw2 ((hB25.x (IsX.refl w25)).rd intC_len)).mono ?_
  rintro e w26 ⟨AR26, cR26, rfl, hR26, hx26'⟩
  replace HW := hide (HW.out.trans hx26')
  replace HS := hide (HS.out.trans hx26')
  replace HG := hide (own_x HG.out hx26')
  go_wp2_with fail
  refine (c_eqInt64S AR26 AR5 cR26 cR5 (bookZ xs0 xs1 xs2) w26 hzl ((hR26).rd (by omega) intC_len rfl) ((HRS.out.x HS.out).rd (by omega) intC_len rfl)).mono ?_
  rintro e w27 ⟨rfl, hxx⟩
  replace HW := hide (HW.out.trans hxx)
  replace HS := hide (HS.out.trans hxx)
  replace HG := hide (own_x HG.out hxx)
  clear hxx
  go_wp2_with fail
  refine (c_heldInt64S AR9 cR9 ((bookZ xs0 xs1 xs2)).length w8.heap.size LG 1 w27 hzl (by omega) (by omega) HG.out HM.out).mono ?_
  rintro e w28 ⟨rfl, hxx⟩
  replace HW := hide (HW.out.trans hxx)
  replace HS := hide (HS.out.trans hxx)
  replace HG := hide (own_x HG.out hxx)
  clear hxx
  go_wp2_with fail
  go_ret
  exact ⟨rfl, HW.out⟩

end Go.Proofs.Ytkepoedicgognaa
