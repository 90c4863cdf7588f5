/- The law FnExactCheapestSeats: the walk through the law's own text. Conditions: those of the row's arguments alone. -/
import Derived.Test.YtadmpefbpklibaaCheapestS
import Derived.Test.YtadmpefbpklibaaMarks
namespace Go.Proofs.Ytadmpefbpklibaa
set_option linter.unusedVariables false
open Go.RowKit

set_option maxRecDepth 100000 in
set_option maxHeartbeats 1600000 in
theorem law_FnExactCheapestSeats (A0 : Option Addr) (c0 : Nat) (xs0 : List RingD) (A1 : Option Addr) (c1 : Nat) (xs1 : List Int) (n2 : Int) (w : World) (hn0 : xs0.length ≤ maxLen) (hw0 : ∀ x ∈ xs0, x.wf) (hA0 : Rd RingD.cells 5 w A0 xs0) (hn1 : xs1.length ≤ maxLen) (hw1 : ∀ x ∈ xs1, intWf x) (hA1 : Rd intC 1 w A1 xs1) (hb2 : intWf n2) :
    Calls Try.prog 3 #[.slice A0 xs0.length c0, .slice A1 xs1.length c1, .int .i64 n2] w fun e w' => e = .returned (.bool true) ∧ IsX w w' := by
  by_cases hg1 : 1048576 < xs1.length
  · skip
    unfold maxLen at hn1
    go_enter Try.func3, Try.ntmps3
    go_wp2_with fail
    go_ret
    exact ⟨rfl, IsX.refl _⟩
  go_enter Try.func3, Try.ntmps3
  go_wp2_with fail
  refine (c_szRingS A0 xs0.length c0 1048576 w hn0 (by omega) (by omega)).mono ?_
  rintro e w1 ⟨m1, rfl, e1a, e1b, e1c, hx1'⟩
  by_cases hm1 : m1 < 0
  · go_wp2_with fail
    go_ret
    exact ⟨rfl, (IsX.refl w).trans hx1'⟩
  have hn0' : xs0.length ≤ 1099511627776 := by omega
  have hn1' : xs1.length ≤ 1099511627776 := by omega
  go_wp2_with fail
  refine (c_toRingS A0 c0 xs0 w1 hn0' (hA0.x ((IsX.refl w).trans hx1'))).mono ?_
  rintro e w2 ⟨g2, rfl, hg2, hB2, hx2'⟩
  go_wp2_with fail
  refine (c_toInt64S A1 c1 xs1 w2 hn1' (hA1.x (((IsX.refl w).trans hx1').trans hx2'))).mono ?_
  rintro e w3 ⟨g3, rfl, hg3, hB3, hx3'⟩
  go_wp2_with fail
  refine (s_CheapestSeats (some ⟨g2, 0, none⟩) xs0.length xs0 (some ⟨g3, 0, none⟩) xs1.length xs1 n2 w3 hn0' hw0 ((hB2.x ((IsX.refl w2).trans hx3')).rd RingD.cells_len) hn1' hw1 ((hB3.x (IsX.refl w3)).rd intC_len) hb2).mono ?_
  rintro e w4 ⟨AR4, cR4, rfl, hR4, hx4'⟩
  go_wp2_with fail
  refine (c_toRingS A0 c0 xs0 w4 hn0' (hA0.x (((((IsX.refl w).trans hx1').trans hx2').trans hx3').trans hx4'))).mono ?_
  rintro e w5 ⟨g5, rfl, hg5, hB5, hx5'⟩
  go_wp2_with fail
  refine (c_toInt64S A1 c1 xs1 w5 hn1' (hA1.x ((((((IsX.refl w).trans hx1').trans hx2').trans hx3').trans hx4').trans hx5'))).mono ?_
  rintro e w6 ⟨g6, rfl, hg6, hB6, hx6'⟩
  go_wp2_with fail
  refine (i_CheapestSeats (some ⟨g5, 0, none⟩) xs0.length xs0 (some ⟨g6, 0, none⟩) xs1.length xs1 n2 w6 hn0' hw0 ((hB5.x ((IsX.refl w5).trans hx6')).rd RingD.cells_len) hn1' hw1 ((hB6.x (IsX.refl w6)).rd intC_len) hb2).mono ?_
  rintro e w7 ⟨AR7, cR7, rfl, hR7, hx7'⟩
  have hzl := cheapZ_len xs0 xs1 n2
  go_wp2_with fail
  refine (c_eqInt64S AR7 AR4 cR7 cR4 (cheapZ xs0 xs1 n2) w7 hzl ((hR7).rd (by omega) intC_len rfl) ((hR4.x ((((IsX.refl w4).trans hx5').trans hx6').trans hx7')).rd (by omega) intC_len rfl)).mono ?_
  rintro e w8 ⟨rfl, hx8'⟩
  go_wp2_with fail
  refine (c_toRingS A0 c0 xs0 w8 hn0' (hA0.x (((((((((IsX.refl w).trans hx1').trans hx2').trans hx3').trans hx4').trans hx5').trans hx6').trans hx7').trans hx8'))).mono ?_
  rintro e w9 ⟨g9, rfl, hg9, hB9, hx9'⟩
  go_wp2_with fail
  refine (c_eqRingS (some ⟨g5, 0, none⟩) (some ⟨g9, 0, none⟩) xs0.length xs0.length xs0 w9 hn0' ((hB5.x (((((IsX.refl w5).trans hx6').trans hx7').trans hx8').trans hx9')).rd RingD.cells_len) (hB9.rd RingD.cells_len)).mono ?_
  rintro e w10 ⟨rfl, hx10'⟩
  go_wp2_with fail
  refine (c_toInt64S A1 c1 xs1 w10 hn1' (hA1.x (((((((((((IsX.refl w).trans hx1').trans hx2').trans hx3').trans hx4').trans hx5').trans hx6').trans hx7').trans hx8').trans hx9').trans hx10'))).mono ?_
  rintro e w11 ⟨g11, rfl, hg11, hB11, hx11'⟩
  go_wp2_with fail
  refine (c_eqInt64S (some ⟨g6, 0, none⟩) (some ⟨g11, 0, none⟩) xs1.length xs1.length xs1 w11 hn1' ((hB6.x ((((((IsX.refl w6).trans hx7').trans hx8').trans hx9').trans hx10').trans hx11')).rd intC_len) (hB11.rd intC_len)).mono ?_
  rintro e w12 ⟨rfl, hx12'⟩
  have HW := hide (((((((((((((IsX.refl w).trans hx1').trans hx2').trans hx3').trans hx4').trans hx5').trans hx6').trans hx7').trans hx8').trans hx9').trans hx10').trans hx11').trans hx12')
  have HS := hide (((((((((IsX.refl w4).trans hx5').trans hx6').trans hx7').trans hx8').trans hx9').trans hx10').trans hx11').trans hx12')
  have HG : Hid (Own intC 1 2 w12 w6.heap.size _ _) := hide (hR7.x ((((((IsX.refl w7).trans hx8').trans hx9').trans hx10').trans hx11').trans hx12'))
  have HRS := hide hR4
  have HX0 := hide ((hB5.x ((((((((IsX.refl w5).trans hx6').trans hx7').trans hx8').trans hx9').trans hx10').trans hx11').trans hx12')).own' RingD.cells_len (Nat.le_refl g5) (by unfold maxLen; omega))
  have HL0 : Hid (w4.heap.size ≤ g5 ∧ g5 < w6.heap.size) := by
    unfold Hid
    have z1 := hB5.lt
    have y5 := hx5'.size; have y6 := hx6'.size
    omega
  have HX1 := hide ((hB6.x (((((((IsX.refl w6).trans hx7').trans hx8').trans hx9').trans hx10').trans hx11').trans hx12')).own' intC_len (Nat.le_refl g6) (by unfold maxLen; omega))
  have HL1 : Hid (w4.heap.size ≤ g6 ∧ g6 < w6.heap.size) := by
    unfold Hid
    have z1 := hB6.lt
    have y5 := hx5'.size; have y6 := hx6'.size
    omega
  have HN0_1 : Hid (g5 ≠ g6) := by
    unfold Hid
    have z1 := hB5.lt
    have z2 := hB6.lt
    have y5 := hx5'.size; have y6 := hx6'.size
    omega
  have HZ0 : Hid (w.heap.size ≤ w4.heap.size) := hide (((((IsX.refl w).trans hx1').trans hx2').trans hx3').trans hx4').size
  have HZ1 : Hid (w4.heap.size ≤ w6.heap.size) := hide (((IsX.refl w4).trans hx5').trans hx6').size
  clear hx1' hx2' hx3' hx4' hx5' hx6' hx7' hx8' hx9' hx10' hx11' hx12'
  clear hR4 hR7
  go_wp2_with fail
  refine (c_markRingS (some ⟨g5, 0, none⟩) xs0.length xs0.length g5 _ _ w12 hn0' (by omega) (by omega) HX0.out).mono ?_
  rintro e w13 ⟨rfl, L13, _, _, hgr⟩
  replace hgr : _root_.Go.World.grownBy w12 w13 (some g5) := hgr
  replace HW := hide (IsX.grown HW.out hgr (by intro k hk; injection hk with hk; have := HL0.out; have := HZ0.out; omega))
  replace HS := hide (IsX.grown HS.out hgr (by intro k hk; injection hk with hk; have := HL0.out; omega))
  replace HG : Hid (Own intC 1 2 w13 w6.heap.size _ _) := hide (own_under HG.out hgr HL0.out.2)
  replace HX1 := hide (own_kept_ne HX1.out hgr (by exact fun e => HN0_1.out e.symm))
  clear hgr
  go_wp2_with fail
  refine (c_markInt64S (some ⟨g6, 0, none⟩) xs1.length xs1.length g6 _ _ w13 hn1' (by omega) (by omega) HX1.out).mono ?_
  rintro e w14 ⟨rfl, L14, _, _, hgr⟩
  replace hgr : _root_.Go.World.grownBy w13 w14 (some g6) := hgr
  replace HW := hide (IsX.grown HW.out hgr (by intro k hk; injection hk with hk; have := HL1.out; have := HZ0.out; omega))
  replace HS := hide (IsX.grown HS.out hgr (by intro k hk; injection hk with hk; have := HL1.out; omega))
  replace HG : Hid (Own intC 1 2 w14 w6.heap.size _ _) := hide (own_under HG.out hgr HL1.out.2)
  clear hgr
  go_wp2_with fail
  refine (c_eqInt64S AR7 AR4 cR7 cR4 (cheapZ xs0 xs1 n2) w14 hzl (Own.rd (cells := intC) (k := 1) (t := 2) (by omega) intC_len HG.out rfl) ((HRS.out.x HS.out).rd (by omega) intC_len rfl)).mono ?_
  rintro e w15 ⟨rfl, hxx⟩
  replace HW := hide (HW.out.trans hxx)
  replace HS := hide (HS.out.trans hxx)
  replace HG := hide (own_x HG.out hxx)
  clear hxx
  go_wp2_with fail
  refine (c_markInt64S AR7 cR7 ((cheapZ xs0 xs1 n2)).length w6.heap.size _ 1 w15 hzl (by omega) (by omega) HG.out).mono ?_
  rintro e w16 ⟨rfl, LG, hO, hM, hgr⟩
  replace HW := hide (IsX.grown HW.out hgr (by intro k hk; have := (HG.out.lt k hk).1; have := HZ0.out; have := HZ1.out; omega))
  replace HS := hide (IsX.grown HS.out hgr (by intro k hk; have := (HG.out.lt k hk).1; have := HZ1.out; omega))
  replace HG := hide hO
  have HM := hide hM
  clear hgr hO hM
  go_wp2_with fail
  refine (c_heldInt64S AR7 cR7 ((cheapZ xs0 xs1 n2)).length w6.heap.size LG 1 w16 hzl (by omega) (by omega) HG.out HM.out).mono ?_
  rintro e w17 ⟨rfl, hxx⟩
  replace HW := hide (HW.out.trans hxx)
  replace HS := hide (HS.out.trans hxx)
  replace HG := hide (own_x HG.out hxx)
  clear hxx
  go_wp2_with fail
  refine (c_toRingS A0 c0 xs0 w17 hn0' (hA0.x (HW.out))).mono ?_
  rintro e w18 ⟨g18, rfl, hg18, hB18, hx18'⟩
  replace HW := hide (HW.out.trans hx18')
  replace HS := hide (HS.out.trans hx18')
  replace HG := hide (own_x HG.out hx18')
  go_wp2_with fail
  refine (c_toInt64S A1 c1 xs1 w18 hn1' (hA1.x (HW.out))).mono ?_
  rintro e w19 ⟨g19, rfl, hg19, hB19, hx19'⟩
  replace HW := hide (HW.out.trans hx19')
  replace HS := hide (HS.out.trans hx19')
  replace HG := hide (own_x HG.out hx19')
  go_wp2_with fail
  refine (i_CheapestSeats (some ⟨g18, 0, none⟩) xs0.length xs0 (some ⟨g19, 0, none⟩) xs1.length xs1 n2 w19 hn0' hw0 ((hB18.x ((IsX.refl w18).trans hx19')).rd RingD.cells_len) hn1' hw1 ((hB19.x (IsX.refl w19)).rd intC_len) hb2).mono ?_
  rintro e w20 ⟨AR20, cR20, rfl, hR20, hx20'⟩
  replace HW := hide (HW.out.trans hx20')
  replace HS := hide (HS.out.trans hx20')
  replace HG := hide (own_x HG.out hx20')
  go_wp2_with fail
  refine (c_eqInt64S AR20 AR4 cR20 cR4 (cheapZ xs0 xs1 n2) w20 hzl ((hR20).rd (by omega) intC_len rfl) ((HRS.out.x HS.out).rd (by omega) intC_len rfl)).mono ?_
  rintro e w21 ⟨rfl, hxx⟩
  replace HW := hide (HW.out.trans hxx)
  replace HS := hide (HS.out.trans hxx)
  replace HG := hide (own_x HG.out hxx)
  clear hxx
  go_wp2_with fail
  refine (c_heldInt64S AR7 cR7 ((cheapZ xs0 xs1 n2)).length w6.heap.size LG 1 w21 hzl (by omega) (by omega) HG.out HM.out).mono ?_
  rintro e w22 ⟨rfl, hxx⟩
  replace HW := hide (HW.out.trans hxx)
  replace HS := hide (HS.out.trans hxx)
  replace HG := hide (own_x HG.out hxx)
  clear hxx
  go_wp2_with fail
  go_ret
  exact ⟨rfl, HW.out⟩

end Go.Proofs.Ytadmpefbpklibaa
