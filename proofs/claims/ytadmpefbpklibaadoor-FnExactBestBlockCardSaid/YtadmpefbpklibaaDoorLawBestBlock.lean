/- The law FnExactBestBlock: the walk through the law's own text. Conditions: those of the row's arguments alone. -/
import Derived.Test.YtadmpefbpklibaaDoorBestS
import Derived.Test.YtadmpefbpklibaaDoorBestI
import Derived.Test.YtadmpefbpklibaaDoorMarks
namespace Go.Proofs.YtadmpefbpklibaaDoor
set_option linter.unusedVariables false
open Go.RowKit

set_option maxRecDepth 100000 in
set_option maxHeartbeats 6400000 in
theorem law_FnExactBestBlock (x0 : DomeD) (A1 : Option Addr) (c1 : Nat) (xs1 : List RingD) (A2 : Option Addr) (c2 : Nat) (xs2 : List Int) (n3 : Int) (w : World) (hx0 : x0.wf) (hn1 : xs1.length ≤ maxLen) (hw1 : ∀ x ∈ xs1, x.wf) (hA1 : Rd RingD.cells 5 w A1 xs1) (hn2 : xs2.length ≤ maxLen) (hw2 : ∀ x ∈ xs2, intWf x) (hA2 : Rd intC 1 w A2 xs2) (hb3 : intWf n3) (HT : ∀ V, IsX w V → sinTab V) :
    Calls Tryd.prog 4 #[.agg #[.string x0.Name, .int .i64 x0.Radius, .int .i64 x0.Tilt], .slice A1 xs1.length c1, .slice A2 xs2.length c2, .int .i64 n3] w fun e w' => e = .returned (.bool true) ∧ IsX w w' := by
  by_cases hg2 : 1048576 < xs2.length
  · skip
    unfold maxLen at hn2
    go_enter Tryd.func4, Tryd.ntmps4
    go_wp2_with fail
    go_ret
    exact ⟨rfl, (IsX.refl _).alloc _⟩
  go_enter Tryd.func4, Tryd.ntmps4
  go_wp2_with fail
  obtain ⟨W, hW⟩ : ∃ W, W = w.alloc (.cells #[.string x0.Name, .int .i64 x0.Radius, .int .i64 x0.Tilt] 23) := ⟨_, rfl⟩
  have hxW : IsX w W := hW ▸ (IsX.refl w).alloc _
  have hBW : Blk W w.heap.size 23 #[.string x0.Name, .int .i64 x0.Radius, .int .i64 x0.Tilt] := hW ▸ Blk.new w _ _
  rw [← hW]
  clear hW
  replace hA1 := hA1.x hxW
  replace hA2 := hA2.x hxW
  replace HT : ∀ V, IsX W V → sinTab V := fun V hV => HT V (hxW.trans hV)
  have HBX := hide (show ∀ V, IsX W V → V.cell? ⟨w.heap.size, 0, none⟩ = some (.string x0.Name) ∧ V.cell? ⟨w.heap.size, 1, none⟩ = some (.int .i64 x0.Radius) ∧ V.cell? ⟨w.heap.size, 2, none⟩ = some (.int .i64 x0.Tilt) ∧ w.heap.size < V.heap.size from fun V hV => ⟨(hBW.x hV).cell 0, (hBW.x hV).cell 1, (hBW.x hV).cell 2, (hBW.x hV).lt⟩)
  clear hBW
  refine (c_szDome x0 1048576 W hx0 (by omega) (by omega)).mono ?_
  rintro e w1 ⟨m1, rfl, e1a, e1b, e1c, hx1'⟩
  by_cases hm1 : m1 < 0
  · go_wp2_with fail
    go_ret
    exact ⟨rfl, hxW.trans ((IsX.refl W).trans hx1')⟩
  go_wp2_with fail
  refine (c_szRingS A1 xs1.length c1 m1 w1 hn1 (by omega) (by omega)).mono ?_
  rintro e w2 ⟨m2, rfl, e2a, e2b, e2c, hx2'⟩
  by_cases hm2 : m2 < 0
  · go_wp2_with fail
    go_ret
    exact ⟨rfl, hxW.trans (((IsX.refl W).trans hx1').trans hx2')⟩
  have hn1' : xs1.length ≤ 1099511627776 := by omega
  have hn2' : xs2.length ≤ 1099511627776 := by omega
  obtain ⟨d0, d1, d2, dl⟩ := HBX.out w2 (((IsX.refl W).trans hx1').trans hx2')
  go_wp2_with fail
  refine (c_toDome x0 w2).mono ?_
  rintro e w3 ⟨rfl, hx3'⟩
  clear d0 d1 d2 dl
  go_wp2_with fail
  refine (c_toRingS A1 c1 xs1 w3 hn1' (hA1.x ((((IsX.refl W).trans hx1').trans hx2').trans hx3'))).mono ?_
  rintro e w4 ⟨g4, rfl, hg4, hB4, hx4'⟩
  go_wp2_with fail
  refine (c_toInt64S A2 c2 xs2 w4 hn2' (hA2.x (((((IsX.refl W).trans hx1').trans hx2').trans hx3').trans hx4'))).mono ?_
  rintro e w5 ⟨g5, rfl, hg5, hB5, hx5'⟩
  go_wp2_with fail
  refine (s_BestBlock x0 (some ⟨g4, 0, none⟩) xs1.length xs1 (some ⟨g5, 0, none⟩) xs2.length xs2 n3 w5 hx0 hn1' hw1 ((hB4.x ((IsX.refl w4).trans hx5')).rd RingD.cells_len) hn2' hw2 ((hB5.x (IsX.refl w5)).rd intC_len) hb3).mono ?_
  rintro e w6 ⟨AR6, cR6, rfl, hR6, hx6'⟩
  go_wp2_with fail
  refine (c_toRingS A1 c1 xs1 w6 hn1' (hA1.x (((((((IsX.refl W).trans hx1').trans hx2').trans hx3').trans hx4').trans hx5').trans hx6'))).mono ?_
  rintro e w7 ⟨g7, rfl, hg7, hB7, hx7'⟩
  go_wp2_with fail
  refine (c_toInt64S A2 c2 xs2 w7 hn2' (hA2.x ((((((((IsX.refl W).trans hx1').trans hx2').trans hx3').trans hx4').trans hx5').trans hx6').trans hx7'))).mono ?_
  rintro e w8 ⟨g8, rfl, hg8, hB8, hx8'⟩
  obtain ⟨d0, d1, d2, dl⟩ := HBX.out w8 (((((((((IsX.refl W).trans hx1').trans hx2').trans hx3').trans hx4').trans hx5').trans hx6').trans hx7').trans hx8')
  go_wp2_with fail
  refine (c_toDome x0 w8).mono ?_
  rintro e w9 ⟨rfl, hx9'⟩
  clear d0 d1 d2 dl
  go_wp2_with fail
  refine (i_BestBlock x0 (some ⟨g7, 0, none⟩) xs1.length xs1 (some ⟨g8, 0, none⟩) xs2.length xs2 n3 w9 hx0 hn1' hw1 ((hB7.x (((IsX.refl w7).trans hx8').trans hx9')).rd RingD.cells_len) hn2' hw2 ((hB8.x ((IsX.refl w8).trans hx9')).rd intC_len) hb3 (fun U hU => HT U (((((((((((IsX.refl W).trans hx1').trans hx2').trans hx3').trans hx4').trans hx5').trans hx6').trans hx7').trans hx8').trans hx9').trans hU))).mono ?_
  rintro e w10 ⟨AR10, cR10, rfl, hR10, hx10'⟩
  have hzl := bestZ_len x0 xs1 xs2 n3
  go_wp2_with fail
  refine (c_eqInt64S AR10 AR6 cR10 cR6 (bestZ x0 xs1 xs2 n3) w10 hzl ((hR10).rd (by omega) intC_len rfl) ((hR6.x (((((IsX.refl w6).trans hx7').trans hx8').trans hx9').trans hx10')).rd (by omega) intC_len rfl)).mono ?_
  rintro e w11 ⟨rfl, hx11'⟩
  go_wp2_with fail
  refine (c_toRingS A1 c1 xs1 w11 hn1' (hA1.x ((((((((((((IsX.refl W).trans hx1').trans hx2').trans hx3').trans hx4').trans hx5').trans hx6').trans hx7').trans hx8').trans hx9').trans hx10').trans hx11'))).mono ?_
  rintro e w12 ⟨g12, rfl, hg12, hB12, hx12'⟩
  go_wp2_with fail
  refine (c_eqRingS (some ⟨g7, 0, none⟩) (some ⟨g12, 0, none⟩) xs1.length xs1.length xs1 w12 hn1' ((hB7.x ((((((IsX.refl w7).trans hx8').trans hx9').trans hx10').trans hx11').trans hx12')).rd RingD.cells_len) (hB12.rd RingD.cells_len)).mono ?_
  rintro e w13 ⟨rfl, hx13'⟩
  go_wp2_with fail
  refine (c_toInt64S A2 c2 xs2 w13 hn2' (hA2.x ((((((((((((((IsX.refl W).trans hx1').trans hx2').trans hx3').trans hx4').trans hx5').trans hx6').trans hx7').trans hx8').trans hx9').trans hx10').trans hx11').trans hx12').trans hx13'))).mono ?_
  rintro e w14 ⟨g14, rfl, hg14, hB14, hx14'⟩
  go_wp2_with fail
  refine (c_eqInt64S (some ⟨g8, 0, none⟩) (some ⟨g14, 0, none⟩) xs2.length xs2.length xs2 w14 hn2' ((hB8.x (((((((IsX.refl w8).trans hx9').trans hx10').trans hx11').trans hx12').trans hx13').trans hx14')).rd intC_len) (hB14.rd intC_len)).mono ?_
  rintro e w15 ⟨rfl, hx15'⟩
  have HW := hide ((((((((((((((((IsX.refl W).trans hx1').trans hx2').trans hx3').trans hx4').trans hx5').trans hx6').trans hx7').trans hx8').trans hx9').trans hx10').trans hx11').trans hx12').trans hx13').trans hx14').trans hx15')
  have HS := hide ((((((((((IsX.refl w6).trans hx7').trans hx8').trans hx9').trans hx10').trans hx11').trans hx12').trans hx13').trans hx14').trans hx15')
  have HG : Hid (Own intC 1 2 w15 w9.heap.size _ _) := hide (hR10.x ((((((IsX.refl w10).trans hx11').trans hx12').trans hx13').trans hx14').trans hx15'))
  have HRS := hide hR6
  have HX1 := hide ((hB7.x (((((((((IsX.refl w7).trans hx8').trans hx9').trans hx10').trans hx11').trans hx12').trans hx13').trans hx14').trans hx15')).own' RingD.cells_len (Nat.le_refl g7) (by unfold maxLen; omega))
  have HL1 : Hid (w6.heap.size ≤ g7 ∧ g7 < w9.heap.size) := by
    unfold Hid
    have z1 := hB7.lt
    have y7 := hx7'.size; have y8 := hx8'.size; have y9 := hx9'.size
    omega
  have HX2 := hide ((hB8.x ((((((((IsX.refl w8).trans hx9').trans hx10').trans hx11').trans hx12').trans hx13').trans hx14').trans hx15')).own' intC_len (Nat.le_refl g8) (by unfold maxLen; omega))
  have HL2 : Hid (w6.heap.size ≤ g8 ∧ g8 < w9.heap.size) := by
    unfold Hid
    have z1 := hB8.lt
    have y7 := hx7'.size; have y8 := hx8'.size; have y9 := hx9'.size
    omega
  have HN1_2 : Hid (g7 ≠ g8) := by
    unfold Hid
    have z1 := hB7.lt
    have z2 := hB8.lt
    have y7 := hx7'.size; have y8 := hx8'.size; have y9 := hx9'.size
    omega
  have HZ0 : Hid (W.heap.size ≤ w6.heap.size) := hide (((((((IsX.refl W).trans hx1').trans hx2').trans hx3').trans hx4').trans hx5').trans hx6').size
  have HZ1 : Hid (w6.heap.size ≤ w9.heap.size) := hide ((((IsX.refl w6).trans hx7').trans hx8').trans hx9').size
  clear hx1' hx2' hx3' hx4' hx5' hx6' hx7' hx8' hx9' hx10' hx11' hx12' hx13' hx14' hx15'
  clear hR6 hR10
  go_wp2_with fail
  refine (c_markRingS (some ⟨g7, 0, none⟩) xs1.length xs1.length g7 _ _ w15 hn1' (by omega) (by omega) HX1.out).mono ?_
  rintro e w16 ⟨rfl, L16, _, _, hgr⟩
  replace hgr : _root_.Go.World.grownBy w15 w16 (some g7) := hgr
  replace HW := hide (IsX.grown HW.out hgr (by intro k hk; injection hk with hk; have := HL1.out; have := HZ0.out; omega))
  replace HS := hide (IsX.grown HS.out hgr (by intro k hk; injection hk with hk; have := HL1.out; omega))
  replace HG : Hid (Own intC 1 2 w16 w9.heap.size _ _) := hide (own_under HG.out hgr HL1.out.2)
  replace HX2 := hide (own_kept_ne HX2.out hgr (by exact fun e => HN1_2.out e.symm))
  clear hgr
  go_wp2_with fail
  refine (c_markInt64S (some ⟨g8, 0, none⟩) xs2.length xs2.length g8 _ _ w16 hn2' (by omega) (by omega) HX2.out).mono ?_
  rintro e w17 ⟨rfl, L17, _, _, hgr⟩
  replace hgr : _root_.Go.World.grownBy w16 w17 (some g8) := hgr
  replace HW := hide (IsX.grown HW.out hgr (by intro k hk; injection hk with hk; have := HL2.out; have := HZ0.out; omega))
  replace HS := hide (IsX.grown HS.out hgr (by intro k hk; injection hk with hk; have := HL2.out; omega))
  replace HG : Hid (Own intC 1 2 w17 w9.heap.size _ _) := hide (own_under HG.out hgr HL2.out.2)
  clear hgr
  go_wp2_with fail
  refine (c_eqInt64S AR10 AR6 cR10 cR6 (bestZ x0 xs1 xs2 n3) w17 hzl (Own.rd (cells := intC) (k := 1) (t := 2) (by omega) intC_len HG.out rfl) ((HRS.out.x HS.out).rd (by omega) intC_len rfl)).mono ?_
  rintro e w18 ⟨rfl, hxx⟩
  replace HW := hide (HW.out.trans hxx)
  replace HS := hide (HS.out.trans hxx)
  replace HG := hide (own_x HG.out hxx)
  clear hxx
  go_wp2_with fail
  refine (c_markInt64S AR10 cR10 ((bestZ x0 xs1 xs2 n3)).length w9.heap.size _ 1 w18 hzl (by omega) (by omega) HG.out).mono ?_
  rintro e w19 ⟨rfl, LG, hO, hM, hgr⟩
  replace HW := hide (IsX.grown HW.out hgr (by intro k hk; have := (HG.out.lt k hk).1; have := HZ0.out; have := HZ1.out; omega))
  replace HS := hide (IsX.grown HS.out hgr (by intro k hk; have := (HG.out.lt k hk).1; have := HZ1.out; omega))
  replace HG := hide hO
  have HM := hide hM
  clear hgr hO hM
  go_wp2_with fail
  refine (c_heldInt64S AR10 cR10 ((bestZ x0 xs1 xs2 n3)).length w9.heap.size LG 1 w19 hzl (by omega) (by omega) HG.out HM.out).mono ?_
  rintro e w20 ⟨rfl, hxx⟩
  replace HW := hide (HW.out.trans hxx)
  replace HS := hide (HS.out.trans hxx)
  replace HG := hide (own_x HG.out hxx)
  clear hxx
  obtain ⟨d0, d1, d2, dl⟩ := HBX.out w20 (HW.out)
  go_wp2_with fail
  refine (c_toDome x0 w20).mono ?_
  rintro e w21 ⟨rfl, hx21'⟩
  clear d0 d1 d2 dl
  replace HW := hide (HW.out.trans hx21')
  replace HS := hide (HS.out.trans hx21')
  replace HG := hide (own_x HG.out hx21')
  go_wp2_with fail
  refine (c_toRingS A1 c1 xs1 w21 hn1' (hA1.x (HW.out))).mono ?_
  rintro e w22 ⟨g22, rfl, hg22, hB22, hx22'⟩
  replace HW := hide (HW.out.trans hx22')
  replace HS := hide (HS.out.trans hx22')
  replace HG := hide (own_x HG.out hx22')
  go_wp2_with fail
  refine (c_toInt64S A2 c2 xs2 w22 hn2' (hA2.x (HW.out))).mono ?_
  rintro e w23 ⟨g23, rfl, hg23, hB23, hx23'⟩
  replace HW := hide (HW.out.trans hx23')
  replace HS := hide (HS.out.trans hx23')
  replace HG := hide (own_x HG.out hx23')
  go_wp2_with fail
  refine (i_BestBlock x0 (some ⟨g22, 0, none⟩) xs1.length xs1 (some ⟨g23, 0, none⟩) xs2.length xs2 n3 w23 hx0 hn1' hw1 ((hB22.x ((IsX.refl w22).trans hx23')).rd RingD.cells_len) hn2' hw2 ((hB23.x (IsX.refl w23)).rd intC_len) hb3 (fun U hU => HT U ((HW.out).trans hU))).mono ?_
  rintro e w24 ⟨AR24, cR24, rfl, hR24, hx24'⟩
  replace HW := hide (HW.out.trans hx24')
  replace HS := hide (HS.out.trans hx24')
  replace HG := hide (own_x HG.out hx24')
  go_wp2_with fail
  refine (c_eqInt64S AR24 AR6 cR24 cR6 (bestZ x0 xs1 xs2 n3) w24 hzl ((hR24).rd (by omega) intC_len rfl) ((HRS.out.x HS.out).rd (by omega) intC_len rfl)).mono ?_
  rintro e w25 ⟨rfl, hxx⟩
  replace HW := hide (HW.out.trans hxx)
  replace HS := hide (HS.out.trans hxx)
  replace HG := hide (own_x HG.out hxx)
  clear hxx
  go_wp2_with fail
  refine (c_heldInt64S AR10 cR10 ((bestZ x0 xs1 xs2 n3)).length w9.heap.size LG 1 w25 hzl (by omega) (by omega) HG.out HM.out).mono ?_
  rintro e w26 ⟨rfl, hxx⟩
  replace HW := hide (HW.out.trans hxx)
  replace HS := hide (HS.out.trans hxx)
  replace HG := hide (own_x HG.out hxx)
  clear hxx
  go_wp2_with fail
  go_ret
  exact ⟨rfl, hxW.trans (HW.out)⟩

end Go.Proofs.YtadmpefbpklibaaDoor
