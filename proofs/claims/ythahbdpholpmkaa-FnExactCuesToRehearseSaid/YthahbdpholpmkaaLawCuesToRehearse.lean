/- The law FnExactCuesToRehearse: the walk through the law's own text. Conditions: those of the row's arguments alone. -/
import Derived.Test.YthahbdpholpmkaaDueFns
import Derived.Test.YthahbdpholpmkaaNestMarks
namespace Go.Proofs.Ythahbdpholpmkaa
set_option linter.unusedVariables false
open Go.RowKit

set_option maxRecDepth 100000 in
set_option maxHeartbeats 1600000 in
theorem law_FnExactCuesToRehearse (A0 : Option Addr) (c0 : Nat) (xs0 : List CueD) (A1 : Option Addr) (c1 : Nat) (xs1 : List RunD) (n2 : Int) (n3 : Int) (w : World) (hn0 : xs0.length ≤ maxLen) (hw0 : ∀ x ∈ xs0, x.wf) (hA0 : Rd CueD.cells 6 w A0 xs0) (hn1 : xs1.length ≤ maxLen) (hw1 : ∀ x ∈ xs1, x.wf) (hA1 : RdRun 0 w A1 xs1) (hb2 : intWf n2) (hb3 : intWf n3) :
    Calls Try.prog 8 #[.slice A0 xs0.length c0, .slice A1 xs1.length c1, .int .i64 n2, .int .i64 n3] w fun e w' => e = .returned (.bool true) ∧ IsX w w' := by
  go_enter Try.func8, Try.ntmps8
  go_wp2_with fail
  refine (c_szCueS A0 c0 xs0 1048576 w hn0 hw0 (by omega) (by omega) (hA0.x (IsX.refl w))).mono ?_
  rintro e w1 ⟨m1, rfl, e1a, e1b, e1c, hx1'⟩
  by_cases hm1 : m1 < 0
  · go_wp2_with fail
    go_ret
    exact ⟨rfl, (IsX.refl w).trans hx1'⟩
  go_wp2_with fail
  refine (c_szRunS A1 c1 xs1 m1 w1 hn1 hw1 (by omega) (by omega) (hA1.x ((IsX.refl w).trans hx1'))).mono ?_
  rintro e w2 ⟨m2, rfl, e2a, e2b, e2c, hx2'⟩
  by_cases hm2 : m2 < 0
  · go_wp2_with fail
    go_ret
    exact ⟨rfl, ((IsX.refl w).trans hx1').trans hx2'⟩
  have hs1' : ∀ x ∈ xs1, x.small 1099511627776 := fun x hx => by
    rcases e2c with h | ⟨_, h⟩
    · omega
    · have := h x hx
      simp only [RunD.small] at this ⊢
      omega
  have hn0' : xs0.length ≤ 1099511627776 := by omega
  have hn1' : xs1.length ≤ 1099511627776 := by omega
  go_wp2_with fail
  refine (c_toCueS A0 c0 xs0 w2 hn0' (hA0.x (((IsX.refl w).trans hx1').trans hx2'))).mono ?_
  rintro e w3 ⟨g3, rfl, hg3, hB3, hx3'⟩
  go_wp2_with fail
  refine (c_toRunS A1 c1 xs1 w3 hn1' hs1' (hA1.x ((((IsX.refl w).trans hx1').trans hx2').trans hx3'))).mono ?_
  rintro e w4 ⟨g4, rfl, hg4, hB4, hx4'⟩
  go_wp2_with fail
  refine (s_CuesToRehearse (some ⟨g3, 0, none⟩) xs0.length xs0 (some ⟨g4, 0, none⟩) xs1.length xs1 n2 n3 w4 hn0' hw0 ((hB3.x ((IsX.refl w3).trans hx4')).rd CueD.cells_len) hn1' hw1 hs1' ((hB4.x (IsX.refl w4)).rd) hb2 hb3).mono ?_
  rintro e w5 ⟨AR5, cR5, rfl, hR5, hx5'⟩
  go_wp2_with fail
  refine (c_toCueS A0 c0 xs0 w5 hn0' (hA0.x ((((((IsX.refl w).trans hx1').trans hx2').trans hx3').trans hx4').trans hx5'))).mono ?_
  rintro e w6 ⟨g6, rfl, hg6, hB6, hx6'⟩
  go_wp2_with fail
  refine (c_toRunS A1 c1 xs1 w6 hn1' hs1' (hA1.x (((((((IsX.refl w).trans hx1').trans hx2').trans hx3').trans hx4').trans hx5').trans hx6'))).mono ?_
  rintro e w7 ⟨g7, rfl, hg7, hB7, hx7'⟩
  go_wp2_with fail
  refine (i_CuesToRehearse (some ⟨g6, 0, none⟩) xs0.length xs0 (some ⟨g7, 0, none⟩) xs1.length xs1 n2 n3 w7 hn0' hw0 ((hB6.x ((IsX.refl w6).trans hx7')).rd CueD.cells_len) hn1' hw1 hs1' ((hB7.x (IsX.refl w7)).rd) hb2 hb3).mono ?_
  rintro e w8 ⟨AR8, cR8, rfl, hR8, hx8'⟩
  have hzl := dueZ_len xs0 xs1 n2 n3
  go_wp2_with fail
  refine (c_eqStringS AR8 AR5 cR8 cR5 (dueZ xs0 xs1 n2 n3) w8 hzl ((hR8).rd (by omega) strC_len rfl) ((hR5.x ((((IsX.refl w5).trans hx6').trans hx7').trans hx8')).rd (by omega) strC_len rfl)).mono ?_
  rintro e w9 ⟨rfl, hx9'⟩
  go_wp2_with fail
  refine (c_toCueS A0 c0 xs0 w9 hn0' (hA0.x ((((((((((IsX.refl w).trans hx1').trans hx2').trans hx3').trans hx4').trans hx5').trans hx6').trans hx7').trans hx8').trans hx9'))).mono ?_
  rintro e w10 ⟨g10, rfl, hg10, hB10, hx10'⟩
  go_wp2_with fail
  refine (c_eqCueS (some ⟨g6, 0, none⟩) (some ⟨g10, 0, none⟩) xs0.length xs0.length xs0 w10 hn0' ((hB6.x (((((IsX.refl w6).trans hx7').trans hx8').trans hx9').trans hx10')).rd CueD.cells_len) (hB10.rd CueD.cells_len)).mono ?_
  rintro e w11 ⟨rfl, hx11'⟩
  go_wp2_with fail
  refine (c_toRunS A1 c1 xs1 w11 hn1' hs1' (hA1.x ((((((((((((IsX.refl w).trans hx1').trans hx2').trans hx3').trans hx4').trans hx5').trans hx6').trans hx7').trans hx8').trans hx9').trans hx10').trans hx11'))).mono ?_
  rintro e w12 ⟨g12, rfl, hg12, hB12, hx12'⟩
  go_wp2_with fail
  refine (c_eqRunS (some ⟨g7, 0, none⟩) (some ⟨g12, 0, none⟩) xs1.length xs1.length xs1 w12 hn1' hs1' ((hB7.x ((((((IsX.refl w7).trans hx8').trans hx9').trans hx10').trans hx11').trans hx12')).rd) (hB12.rd)).mono ?_
  rintro e w13 ⟨rfl, hx13'⟩
  have HW := hide ((((((((((((((IsX.refl w).trans hx1').trans hx2').trans hx3').trans hx4').trans hx5').trans hx6').trans hx7').trans hx8').trans hx9').trans hx10').trans hx11').trans hx12').trans hx13')
  have HS := hide (((((((((IsX.refl w5).trans hx6').trans hx7').trans hx8').trans hx9').trans hx10').trans hx11').trans hx12').trans hx13')
  have HG : Hid (Own strC 1 9 w13 w7.heap.size _ _) := hide (hR8.x ((((((IsX.refl w8).trans hx9').trans hx10').trans hx11').trans hx12').trans hx13'))
  have HRS := hide hR5
  have HX0 := hide ((hB6.x ((((((((IsX.refl w6).trans hx7').trans hx8').trans hx9').trans hx10').trans hx11').trans hx12').trans hx13')).own' CueD.cells_len (Nat.le_refl g6) (by unfold maxLen; omega))
  have HL0 : Hid (w5.heap.size ≤ g6 ∧ g6 < w7.heap.size) := by
    unfold Hid
    have z1 := hB6.lt
    have y6 := hx6'.size; have y7 := hx7'.size
    omega
  have hsS : ∀ x ∈ xs1, x.small 1048576 := fun x hx => by
    rcases e2c with h | ⟨_, h⟩
    · omega
    · have := h x hx
      simp only [RunD.small] at this ⊢
      omega
  have hnS : xs1.length ≤ 1048576 := by
    rcases e2c with h | ⟨h, _⟩ <;> omega
  obtain ⟨rs1, hrl1, hrO1, hrg1, hrR1, hrM1⟩ := hB7.rows
  have HRO1 := hide (hrO1.x (((((((IsX.refl w7).trans hx8').trans hx9').trans hx10').trans hx11').trans hx12').trans hx13'))
  have HRR1 := hide (fun r hr => (hrR1 r hr).x (((((((IsX.refl w7).trans hx8').trans hx9').trans hx10').trans hx11').trans hx12').trans hx13'))
  have HRS1 := hide (show ∀ r ∈ rs1, r.Cues.length ≤ 1048576 ∧ r.Remarks.length ≤ 1048576 from fun r hr => by
    have h := hsS _ (hrM1 r hr)
    simp only [RunD.small, RunR.data] at h
    omega)
  have HHI : Hid (w7.heap.size ≤ w7.heap.size) := hide (IsX.refl w7).size
  have HRG1 := hide hrg1
  have HRL1 := hide hrl1
  have HL1 : Hid (w5.heap.size ≤ g7 ∧ g7 < w7.heap.size) := by
    unfold Hid
    have y6 := hx6'.size; have y7 := hx7'.size
    omega
  clear hrl1 hrO1 hrg1 hrR1 hrM1 hsS
  have HLE0_1 : Hid (g6 ≤ g7) := by
    unfold Hid
    have z1 := hB6.lt
    have y6 := hx6'.size; have y7 := hx7'.size
    omega
  have HN0_1 : Hid (g6 ≠ g7) := by
    unfold Hid
    have z1 := hB6.lt
    have y6 := hx6'.size; have y7 := hx7'.size
    omega
  have HZ0 : Hid (w.heap.size ≤ w5.heap.size) := hide ((((((IsX.refl w).trans hx1').trans hx2').trans hx3').trans hx4').trans hx5').size
  have HZ1 : Hid (w5.heap.size ≤ w7.heap.size) := hide (((IsX.refl w5).trans hx6').trans hx7').size
  clear hx1' hx2' hx3' hx4' hx5' hx6' hx7' hx8' hx9' hx10' hx11' hx12' hx13'
  clear hR5 hR8
  go_wp2_with fail
  refine (c_markCueS (some ⟨g6, 0, none⟩) xs0.length xs0.length g6 _ _ w13 hn0' (by omega) (by omega) HX0.out).mono ?_
  rintro e w14 ⟨rfl, L14, _, _, hgr⟩
  replace hgr : _root_.Go.World.grownBy w13 w14 (some g6) := hgr
  replace HW := hide (IsX.grown HW.out hgr (by intro k hk; injection hk with hk; have := HL0.out; have := HZ0.out; omega))
  replace HS := hide (IsX.grown HS.out hgr (by intro k hk; injection hk with hk; have := HL0.out; omega))
  replace HG : Hid (Own strC 1 9 w14 w7.heap.size _ _) := hide (own_under HG.out hgr HL0.out.2)
  replace HRO1 := hide (HRO1.out.grown hgr (fun e => HN0_1.out e.symm))
  replace HRR1 := hide (fun r hr => (HRR1.out r hr).under hgr (by have := HLE0_1.out; omega))
  clear hgr
  go_wp2_with fail
  refine (c_markRunS g7 w7.heap.size xs1.length rs1 xs1.length _ w14 HRL1.out.symm hnS (by omega) (by omega) HRS1.out HRG1.out HRO1.out HRR1.out).mono ?_
  rintro e w15 ⟨kk, rfl, hkk, htt⟩
  replace HW := hide (htt.x HW.out (by have := HL1.out; have := HZ0.out; omega))
  replace HS := hide (htt.x HS.out HL1.out.1)
  replace HG : Hid (Own strC 1 9 w15 w7.heap.size _ _) := hide (own_touch HG.out htt HHI.out)
  clear htt
  go_wp2_with fail
  refine (c_eqStringS AR8 AR5 cR8 cR5 (dueZ xs0 xs1 n2 n3) w15 hzl (Own.rd (cells := strC) (k := 1) (t := 9) (by omega) strC_len HG.out rfl) ((HRS.out.x HS.out).rd (by omega) strC_len rfl)).mono ?_
  rintro e w16 ⟨rfl, hxx⟩
  replace HW := hide (HW.out.trans hxx)
  replace HS := hide (HS.out.trans hxx)
  replace HG := hide (own_x HG.out hxx)
  clear hxx
  go_wp2_with fail
  refine (c_markStringS AR8 cR8 ((dueZ xs0 xs1 n2 n3)).length w7.heap.size _ 1 w16 hzl (by omega) (by omega) HG.out).mono ?_
  rintro e w17 ⟨rfl, LG, hO, hM, hgr⟩
  replace HW := hide (IsX.grown HW.out hgr (by intro k hk; have := (HG.out.lt k hk).1; have := HZ0.out; have := HZ1.out; omega))
  replace HS := hide (IsX.grown HS.out hgr (by intro k hk; have := (HG.out.lt k hk).1; have := HZ1.out; omega))
  replace HG := hide hO
  have HM := hide hM
  clear hgr hO hM
  go_wp2_with fail
  refine (c_heldStringS AR8 cR8 ((dueZ xs0 xs1 n2 n3)).length w7.heap.size LG 1 w17 hzl (by omega) (by omega) HG.out HM.out).mono ?_
  rintro e w18 ⟨rfl, hxx⟩
  replace HW := hide (HW.out.trans hxx)
  replace HS := hide (HS.out.trans hxx)
  replace HG := hide (own_x HG.out hxx)
  clear hxx
  go_wp2_with fail
  refine (c_toCueS A0 c0 xs0 w18 hn0' (hA0.x (HW.out))).mono ?_
  rintro e w19 ⟨g19, rfl, hg19, hB19, hx19'⟩
  replace HW := hide (HW.out.trans hx19')
  replace HS := hide (HS.out.trans hx19')
  replace HG := hide (own_x HG.out hx19')
  go_wp2_with fail
  refine (c_toRunS A1 c1 xs1 w19 hn1' hs1' (hA1.x (HW.out))).mono ?_
  rintro e w20 ⟨g20, rfl, hg20, hB20, hx20'⟩
  replace HW := hide (HW.out.trans hx20')
  replace HS := hide (HS.out.trans hx20')
  replace HG := hide (own_x HG.out hx20')
  go_wp2_with fail
  refine (i_CuesToRehearse (some ⟨g19, 0, none⟩) xs0.length xs0 (some ⟨g20, 0, none⟩) xs1.length xs1 n2 n3 w20 hn0' hw0 ((hB19.x ((IsX.refl w19).trans hx20')).rd CueD.cells_len) hn1' hw1 hs1' ((hB20.x (IsX.refl w20)).rd) hb2 hb3).mono ?_
  rintro e w21 ⟨AR21, cR21, rfl, hR21, hx21'⟩
  replace HW := hide (HW.out.trans hx21')
  replace HS := hide (HS.out.trans hx21')
  replace HG := hide (own_x HG.out hx21')
  go_wp2_with fail
  refine (c_eqStringS AR21 AR5 cR21 cR5 (dueZ xs0 xs1 n2 n3) w21 hzl ((hR21).rd (by omega) strC_len rfl) ((HRS.out.x HS.out).rd (by omega) strC_len rfl)).mono ?_
  rintro e w22 ⟨rfl, hxx⟩
  replace HW := hide (HW.out.trans hxx)
  replace HS := hide (HS.out.trans hxx)
  replace HG := hide (own_x HG.out hxx)
  clear hxx
  go_wp2_with fail
  refine (c_heldStringS AR8 cR8 ((dueZ xs0 xs1 n2 n3)).length w7.heap.size LG 1 w22 hzl (by omega) (by omega) HG.out HM.out).mono ?_
  rintro e w23 ⟨rfl, hxx⟩
  replace HW := hide (HW.out.trans hxx)
  replace HS := hide (HS.out.trans hxx)
  replace HG := hide (own_x HG.out hxx)
  clear hxx
  go_wp2_with fail
  go_ret
  exact ⟨rfl, HW.out⟩

end Go.Proofs.Ythahbdpholpmkaa
