/- The law FnExactWhoMustCome: the walk through the law's own text. Conditions: those of the row's arguments alone. -/
import Derived.Test.YthahbdpholpmkaaWhoFns
import Derived.Test.YthahbdpholpmkaaNestMarks
namespace Go.Proofs.Ythahbdpholpmkaa
set_option linter.unusedVariables false
open Go.RowKit

set_option maxRecDepth 100000 in
set_option maxHeartbeats 1600000 in
theorem law_FnExactWhoMustCome (A0 : Option Addr) (c0 : Nat) (xs0 : List RunD) (w : World) (hn0 : xs0.length ≤ maxLen) (hw0 : ∀ x ∈ xs0, x.wf) (hA0 : RdRun 0 w A0 xs0) :
    Calls Try.prog 5 #[.slice A0 xs0.length c0] w fun e w' => e = .returned (.bool true) ∧ IsX w w' := by
  go_enter Try.func5, Try.ntmps5
  go_wp2_with fail
  refine (c_szRunS A0 c0 xs0 1048576 w hn0 hw0 (by omega) (by omega) (hA0.x (IsX.refl w))).mono ?_
  rintro e w1 ⟨m1, rfl, e1a, e1b, e1c, hx1'⟩
  by_cases hm1 : m1 < 0
  · go_wp2_with fail
    go_ret
    exact ⟨rfl, (IsX.refl w).trans hx1'⟩
  have hs0' : ∀ x ∈ xs0, x.small 1099511627776 := fun x hx => by
    rcases e1c with h | ⟨_, h⟩
    · omega
    · have := h x hx
      simp only [RunD.small] at this ⊢
      omega
  have hn0' : xs0.length ≤ 1099511627776 := by omega
  go_wp2_with fail
  refine (c_toRunS A0 c0 xs0 w1 hn0' hs0' (hA0.x ((IsX.refl w).trans hx1'))).mono ?_
  rintro e w2 ⟨g2, rfl, hg2, hB2, hx2'⟩
  go_wp2_with fail
  refine (s_WhoMustCome (some ⟨g2, 0, none⟩) xs0.length xs0 w2 hn0' hw0 hs0' ((hB2.x (IsX.refl w2)).rd)).mono ?_
  rintro e w3 ⟨AR3, cR3, rfl, hR3, hx3'⟩
  go_wp2_with fail
  refine (c_toRunS A0 c0 xs0 w3 hn0' hs0' (hA0.x ((((IsX.refl w).trans hx1').trans hx2').trans hx3'))).mono ?_
  rintro e w4 ⟨g4, rfl, hg4, hB4, hx4'⟩
  go_wp2_with fail
  refine (i_WhoMustCome (some ⟨g4, 0, none⟩) xs0.length xs0 w4 hn0' hw0 hs0' ((hB4.x (IsX.refl w4)).rd)).mono ?_
  rintro e w5 ⟨AR5, cR5, rfl, hR5, hx5'⟩
  have hzl := whoZ_len xs0
  go_wp2_with fail
  refine (c_eqStringS AR5 AR3 cR5 cR3 (whoZ xs0) w5 hzl ((hR5).rd (by omega) strC_len rfl) ((hR3.x (((IsX.refl w3).trans hx4').trans hx5')).rd (by omega) strC_len rfl)).mono ?_
  rintro e w6 ⟨rfl, hx6'⟩
  go_wp2_with fail
  refine (c_toRunS A0 c0 xs0 w6 hn0' hs0' (hA0.x (((((((IsX.refl w).trans hx1').trans hx2').trans hx3').trans hx4').trans hx5').trans hx6'))).mono ?_
  rintro e w7 ⟨g7, rfl, hg7, hB7, hx7'⟩
  go_wp2_with fail
  refine (c_eqRunS (some ⟨g4, 0, none⟩) (some ⟨g7, 0, none⟩) xs0.length xs0.length xs0 w7 hn0' hs0' ((hB4.x ((((IsX.refl w4).trans hx5').trans hx6').trans hx7')).rd) (hB7.rd)).mono ?_
  rintro e w8 ⟨rfl, hx8'⟩
  have HW := hide (((((((((IsX.refl w).trans hx1').trans hx2').trans hx3').trans hx4').trans hx5').trans hx6').trans hx7').trans hx8')
  have HS := hide ((((((IsX.refl w3).trans hx4').trans hx5').trans hx6').trans hx7').trans hx8')
  have HG : Hid (Own strC 1 9 w8 w4.heap.size _ _) := hide (hR5.x ((((IsX.refl w5).trans hx6').trans hx7').trans hx8'))
  have HRS := hide hR3
  have hsS : ∀ x ∈ xs0, x.small 1048576 := fun x hx => by
    rcases e1c with h | ⟨_, h⟩
    · omega
    · exact h x hx
  have hnS : xs0.length ≤ 1048576 := by
    rcases e1c with h | ⟨h, _⟩ <;> omega
  obtain ⟨rs0, hrl0, hrO0, hrg0, hrR0, hrM0⟩ := hB4.rows
  have HRO0 := hide (hrO0.x (((((IsX.refl w4).trans hx5').trans hx6').trans hx7').trans hx8'))
  have HRR0 := hide (fun r hr => (hrR0 r hr).x (((((IsX.refl w4).trans hx5').trans hx6').trans hx7').trans hx8'))
  have HRS0 := hide (show ∀ r ∈ rs0, r.Cues.length ≤ 1048576 ∧ r.Remarks.length ≤ 1048576 from fun r hr => by
    have h := hsS _ (hrM0 r hr)
    simp only [RunD.small, RunR.data] at h
    omega)
  have HHI : Hid (w4.heap.size ≤ w4.heap.size) := hide (IsX.refl w4).size
  have HRG0 := hide hrg0
  have HRL0 := hide hrl0
  have HL0 : Hid (w3.heap.size ≤ g4 ∧ g4 < w4.heap.size) := by
    unfold Hid
    have y4 := hx4'.size
    omega
  clear hrl0 hrO0 hrg0 hrR0 hrM0 hsS
  have HZ0 : Hid (w.heap.size ≤ w3.heap.size) := hide ((((IsX.refl w).trans hx1').trans hx2').trans hx3').size
  have HZ1 : Hid (w3.heap.size ≤ w4.heap.size) := hide ((IsX.refl w3).trans hx4').size
  clear hx1' hx2' hx3' hx4' hx5' hx6' hx7' hx8'
  clear hR3 hR5
  go_wp2_with fail
  refine (c_markRunS g4 w4.heap.size xs0.length rs0 xs0.length w8 HRL0.out.symm hnS HRS0.out HRG0.out HRO0.out HRR0.out).mono ?_
  rintro e w9 ⟨kk, rfl, hkk, htt⟩
  replace HW := hide (htt.x HW.out (by have := HL0.out; have := HZ0.out; omega))
  replace HS := hide (htt.x HS.out HL0.out.1)
  replace HG : Hid (Own strC 1 9 w9 w4.heap.size _ _) := hide (own_touch HG.out htt HHI.out)
  clear htt
  go_wp2_with fail
  refine (c_eqStringS AR5 AR3 cR5 cR3 (whoZ xs0) w9 hzl (Own.rd (cells := strC) (k := 1) (t := 9) (by omega) strC_len HG.out rfl) ((HRS.out.x HS.out).rd (by omega) strC_len rfl)).mono ?_
  rintro e w10 ⟨rfl, hxx⟩
  replace HW := hide (HW.out.trans hxx)
  replace HS := hide (HS.out.trans hxx)
  replace HG := hide (own_x HG.out hxx)
  clear hxx
  go_wp2_with fail
  refine (c_markStringS AR5 cR5 ((whoZ xs0)).length w4.heap.size _ 1 w10 hzl (by omega) (by omega) HG.out).mono ?_
  rintro e w11 ⟨rfl, LG, hO, hM, hgr⟩
  replace HW := hide (IsX.grown HW.out hgr (by intro k hk; have := (HG.out.lt k hk).1; have := HZ0.out; have := HZ1.out; omega))
  replace HS := hide (IsX.grown HS.out hgr (by intro k hk; have := (HG.out.lt k hk).1; have := HZ1.out; omega))
  replace HG := hide hO
  have HM := hide hM
  clear hgr hO hM
  go_wp2_with fail
  refine (c_heldStringS AR5 cR5 ((whoZ xs0)).length w4.heap.size LG 1 w11 hzl (by omega) (by omega) HG.out HM.out).mono ?_
  rintro e w12 ⟨rfl, hxx⟩
  replace HW := hide (HW.out.trans hxx)
  replace HS := hide (HS.out.trans hxx)
  replace HG := hide (own_x HG.out hxx)
  clear hxx
  go_wp2_with fail
  refine (c_toRunS A0 c0 xs0 w12 hn0' hs0' (hA0.x (HW.out))).mono ?_
  rintro e w13 ⟨g13, rfl, hg13, hB13, hx13'⟩
  replace HW := hide (HW.out.trans hx13')
  replace HS := hide (HS.out.trans hx13')
  replace HG := hide (own_x HG.out hx13')
  go_wp2_with fail
  refine (i_WhoMustCome (some ⟨g13, 0, none⟩) xs0.length xs0 w13 hn0' hw0 hs0' ((hB13.x (IsX.refl w13)).rd)).mono ?_
  rintro e w14 ⟨AR14, cR14, rfl, hR14, hx14'⟩
  replace HW := hide (HW.out.trans hx14')
  replace HS := hide (HS.out.trans hx14')
  replace HG := hide (own_x HG.out hx14')
  go_wp2_with fail
  refine (c_eqStringS AR14 AR3 cR14 cR3 (whoZ xs0) w14 hzl ((hR14).rd (by omega) strC_len rfl) ((HRS.out.x HS.out).rd (by omega) strC_len rfl)).mono ?_
  rintro e w15 ⟨rfl, hxx⟩
  replace HW := hide (HW.out.trans hxx)
  replace HS := hide (HS.out.trans hxx)
  replace HG := hide (own_x HG.out hxx)
  clear hxx
  go_wp2_with fail
  refine (c_heldStringS AR5 cR5 ((whoZ xs0)).length w4.heap.size LG 1 w15 hzl (by omega) (by omega) HG.out HM.out).mono ?_
  rintro e w16 ⟨rfl, hxx⟩
  replace HW := hide (HW.out.trans hxx)
  replace HS := hide (HS.out.trans hxx)
  replace HG := hide (own_x HG.out hxx)
  clear hxx
  go_wp2_with fail
  go_ret
  exact ⟨rfl, HW.out⟩

end Go.Proofs.Ythahbdpholpmkaa
