/- The law FnExactDoneRemark: the walk through the law's own text. Conditions: those of the row's arguments alone. -/
import Derived.Test.YteneapchgmmhbaaRunLaw
namespace Go.Proofs.Yteneapchgmmhbaa
set_option linter.unusedVariables false
open Go.RowKit

set_option maxRecDepth 100000 in
set_option maxHeartbeats 12800000 in
theorem law_FnExactDoneRemark (A0 : Option Addr) (c0 : Nat) (xs0 : List RunD) (n1 : Int) (w : World) (hn0 : xs0.length ≤ maxLen) (hw0 : ∀ x ∈ xs0, x.wf) (hA0 : RdRun 0 w A0 xs0) (hb1 : intWf n1) :
    Calls Try.prog 3 #[.slice A0 xs0.length c0, .int .i64 n1] w fun e w' => e = .returned (.bool true) ∧ IsX w w' := by
  go_enter Try.func3, Try.ntmps3
  go_wp2_with fail
  refine (c_szRunS A0 c0 xs0 1048576 w hn0 hw0 (by omega) (by omega) (hA0.x (IsX.refl w))).mono ?_
  rintro e w1 ⟨m1, rfl, e1a, e1b, e1c, hx1'⟩
  by_cases hm1 : m1 < 0
  · go_wp2_with fail
    go_ret
    exact ⟨rfl, (IsX.refl w).trans hx1'⟩
  have hs0' : ∀ x ∈ xs0, x.small 1099511627776 := fun x hx => by
    rcases e1c with h | ⟨_, h⟩
    · omega
    · have := h x hx
      simp only [RunD.small] at this ⊢
      omega
  have hn0' : xs0.length ≤ 1099511627776 := by omega
  go_wp2_with fail
  refine (c_toRunS A0 c0 xs0 w1 hn0' hs0' (hA0.x ((IsX.refl w).trans hx1'))).mono ?_
  rintro e w2 ⟨g2, rfl, hg2, hB2, hx2'⟩
  go_wp2_with fail
  refine (s_DoneRemark (some ⟨g2, 0, none⟩) xs0.length xs0 n1 w2 hn0' hw0 hs0' ((hB2.x (IsX.refl w2)).rd) hb1).mono ?_
  rintro e w3 ⟨AR3, cR3, esR3, rfl, hR3, hF3, hx3'⟩
  go_wp2_with fail
  refine (c_toRunS A0 c0 xs0 w3 hn0' hs0' (hA0.x ((((IsX.refl w).trans hx1').trans hx2').trans hx3'))).mono ?_
  rintro e w4 ⟨g4, rfl, hg4, hB4, hx4'⟩
  go_wp2_with fail
  refine (i_DoneRemark (some ⟨g4, 0, none⟩) xs0.length xs0 n1 w4 hn0' hw0 hs0' ((hB4.x (IsX.refl w4)).rd) hb1).mono ?_
  rintro e w5 ⟨AR5, cR5, esR5, rfl, hR5, hF5, hx5'⟩
  have hzl := doneZ_len xs0 n1
  have hzm := doneZ_sm xs0 n1
  have hzs : ∀ x ∈ (doneZ xs0 n1), x.small 1099511627776 := fun x hx => by have := hzm x hx; simp only [RunD.small] at this ⊢; omega
  go_wp2_with fail
  refine (c_eqRunS AR5 AR3 cR5 cR3 (doneZ xs0 n1) w5 (by omega) hzs (hR5.rd hF5) ((hR3.x (((IsX.refl w3).trans hx4').trans hx5')).rd hF3)).mono ?_
  rintro e w6 ⟨rfl, hx6'⟩
  go_wp2_with fail
  refine (c_toRunS A0 c0 xs0 w6 hn0' hs0' (hA0.x (((((((IsX.refl w).trans hx1').trans hx2').trans hx3').trans hx4').trans hx5').trans hx6'))).mono ?_
  rintro e w7 ⟨g7, rfl, hg7, hB7, hx7'⟩
  go_wp2_with fail
  refine (c_eqRunS (some ⟨g4, 0, none⟩) (some ⟨g7, 0, none⟩) xs0.length xs0.length xs0 w7 hn0' hs0' ((hB4.x ((((IsX.refl w4).trans hx5').trans hx6').trans hx7')).rd) (hB7.rd)).mono ?_
  rintro e w8 ⟨rfl, hx8'⟩
  have HW := hide (((((((((IsX.refl w).trans hx1').trans hx2').trans hx3').trans hx4').trans hx5').trans hx6').trans hx7').trans hx8')
  have HS := hide ((((((IsX.refl w3).trans hx4').trans hx5').trans hx6').trans hx7').trans hx8')
  have HG : Hid (RunRow w8 w4.heap.size (.slice AR5 ((doneZ xs0 n1)).length cR5) esR5) := hide (hR5.x ((((IsX.refl w5).trans hx6').trans hx7').trans hx8'))
  have HRS := hide hR3
  have hsS : ∀ x ∈ xs0, x.small 1048576 := fun x hx => by
    rcases e1c with h | ⟨_, h⟩
    · omega
    · have := h x hx
      simp only [RunD.small] at this ⊢
      omega
  have hnS : xs0.length ≤ 1048576 := by
    rcases e1c with h | ⟨h, _⟩ <;> omega
  obtain ⟨rs0, hrl0, hrO0, hrg0, hrR0, hrM0⟩ := hB4.rows
  have HRO0 := hide (hrO0.x (((((IsX.refl w4).trans hx5').trans hx6').trans hx7').trans hx8'))
  have HRR0 := hide (fun r hr => (hrR0 r hr).x (((((IsX.refl w4).trans hx5').trans hx6').trans hx7').trans hx8'))
  have HRS0 := hide (show ∀ r ∈ rs0, r.Cues.length ≤ 1048576 ∧ r.Remarks.length ≤ 1048576 from fun r hr => by
    have h := hsS _ (hrM0 r hr)
    simp only [RunD.small, RunR.data] at h
    omega)
  have HHI : Hid (w4.heap.size ≤ w4.heap.size) := hide (IsX.refl w4).size
  have HRG0 := hide hrg0
  have HRL0 := hide hrl0
  have HL0 : Hid (w3.heap.size ≤ g4 ∧ g4 < w4.heap.size) := by
    unfold Hid
    have y4 := hx4'.size
    omega
  clear hrl0 hrO0 hrg0 hrR0 hrM0 hsS
  have HZ0 : Hid (w.heap.size ≤ w3.heap.size) := hide ((((IsX.refl w).trans hx1').trans hx2').trans hx3').size
  have HZ1 : Hid (w3.heap.size ≤ w4.heap.size) := hide ((IsX.refl w3).trans hx4').size
  clear hx1' hx2' hx3' hx4' hx5' hx6' hx7' hx8'
  clear hR3 hR5
  go_wp2_with fail
  refine (c_markRunS g4 w4.heap.size xs0.length rs0 xs0.length _ w8 HRL0.out.symm hnS (by omega) (by omega) HRS0.out HRG0.out HRO0.out HRR0.out).mono ?_
  rintro e w9 ⟨kk, rfl, hkk, htt⟩
  replace HW := hide (htt.x HW.out (by have := HL0.out; have := HZ0.out; omega))
  replace HS := hide (htt.x HS.out HL0.out.1)
  replace HG := hide (HG.out.touch htt HHI.out)
  clear htt
  go_wp2_with fail
  refine (c_eqRunS AR5 AR3 cR5 cR3 (doneZ xs0 n1) w9 (by omega) hzs (HG.out.rd hF5) ((HRS.out.x HS.out).rd hF3)).mono ?_
  rintro e w10 ⟨rfl, hxx⟩
  replace HW := hide (HW.out.trans hxx)
  replace HS := hide (HS.out.trans hxx)
  replace HG := hide (HG.out.x hxx)
  clear hxx
  go_wp2_with fail
  refine (c_markRunSO AR5 ((doneZ xs0 n1)).length cR5 w4.heap.size esR5 1 w10 hF5.len.symm hzl (by omega) (by omega) (hF5.sm hzm) HG.out).mono ?_
  rintro e w11 ⟨km, esM, rfl, hkm0, hkml, hkms, hkmk, hO, hbl⟩
  replace HW := hide (IsX.of_below (HW.out.below.trans (hbl.mono (Nat.le_trans HZ0.out HZ1.out))))
  replace HS := hide (IsX.of_below (HS.out.below.trans (hbl.mono HZ1.out)))
  replace HG := hide (hO)
  have HKL := hide hkml
  have HKS := hide hkms
  have HKM := hide hkmk
  have hkn : decide (km < 0) = false := decide_eq_false (by omega)
  clear hbl hO hkml hkms hkmk
  go_wp2_with fail
  refine (c_heldRunSO AR5 ((doneZ xs0 n1)).length cR5 w4.heap.size esM 1 km w11 HKL.out hzl (by omega) (by omega) HKS.out HKM.out HG.out).mono ?_
  rintro e w12 ⟨rfl, hxx⟩
  replace HW := hide (HW.out.trans hxx)
  replace HS := hide (HS.out.trans hxx)
  replace HG := hide (HG.out.x hxx)
  clear hxx
  go_wp2_with fail
  refine (c_toRunS A0 c0 xs0 w12 hn0' hs0' (hA0.x (HW.out))).mono ?_
  rintro e w13 ⟨g13, rfl, hg13, hB13, hx13'⟩
  replace HW := hide (HW.out.trans hx13')
  replace HS := hide (HS.out.trans hx13')
  replace HG := hide (HG.out.x hx13')
  go_wp2_with fail
  refine (i_DoneRemark (some ⟨g13, 0, none⟩) xs0.length xs0 n1 w13 hn0' hw0 hs0' ((hB13.x (IsX.refl w13)).rd) hb1).mono ?_
  rintro e w14 ⟨AR14, cR14, esR14, rfl, hR14, hF14, hx14'⟩
  replace HW := hide (HW.out.trans hx14')
  replace HS := hide (HS.out.trans hx14')
  replace HG := hide (HG.out.x hx14')
  go_wp2_with fail
  refine (c_eqRunS AR14 AR3 cR14 cR3 (doneZ xs0 n1) w14 (by omega) hzs (hR14.rd hF14) ((HRS.out.x HS.out).rd hF3)).mono ?_
  rintro e w15 ⟨rfl, hxx⟩
  replace HW := hide (HW.out.trans hxx)
  replace HS := hide (HS.out.trans hxx)
  replace HG := hide (HG.out.x hxx)
  clear hxx
  go_wp2_with fail
  refine (c_heldRunSO AR5 ((doneZ xs0 n1)).length cR5 w4.heap.size esM 1 km w15 HKL.out hzl (by omega) (by omega) HKS.out HKM.out HG.out).mono ?_
  rintro e w16 ⟨rfl, hxx⟩
  replace HW := hide (HW.out.trans hxx)
  replace HS := hide (HS.out.trans hxx)
  replace HG := hide (HG.out.x hxx)
  clear hxx
  go_wp2_with fail
  go_ret
  exact ⟨rfl, HW.out⟩

end Go.Proofs.Yteneapchgmmhbaa
