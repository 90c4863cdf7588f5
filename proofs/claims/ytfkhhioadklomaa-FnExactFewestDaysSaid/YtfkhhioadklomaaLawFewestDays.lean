/- The law FnExactFewestDays: the walk through the law's own text. Conditions: those of the row's arguments alone. -/
import Derived.Test.YtfkhhioadklomaaFewDays
import Derived.Test.YtfkhhioadklomaaFewTop
import Derived.Test.YtfkhhioadklomaaPersonVal
namespace Go.Proofs.Ytfkhhioadklomaa
set_option linter.unusedVariables false
open Go.RowKit

set_option maxRecDepth 100000 in
set_option maxHeartbeats 12800000 in
theorem law_FnExactFewestDays (A0 : Option Addr) (c0 : Nat) (xs0 : List PersonD) (A1 : Option Addr) (c1 : Nat) (xs1 : List ByteArray) (n2 : Int) (n3 : Int) (n4 : Int) (w : World) (hn0 : xs0.length ≤ maxLen) (hw0 : ∀ x ∈ xs0, x.wf) (hA0 : RdPerson 0 w A0 xs0) (hn1 : xs1.length ≤ maxLen) (hw1 : ∀ x ∈ xs1, strWf x) (hA1 : Rd strC 1 w A1 xs1) (hb2 : intWf n2) (hb3 : intWf n3) (hb4 : intWf n4) :
    Calls Try.prog 3 #[.slice A0 xs0.length c0, .slice A1 xs1.length c1, .int .i64 n2, .int .i64 n3, .int .i64 n4] w fun e w' => e = .returned (.bool true) ∧ IsX w w' := by
  go_enter Try.func3, Try.ntmps3
  go_wp2_with fail
  refine (c_szPersonS A0 c0 xs0 1048576 w hn0 hw0 (by omega) (by omega) (hA0.x (IsX.refl w))).mono ?_
  rintro e w1 ⟨m1, rfl, e1a, e1b, e1c, hx1'⟩
  by_cases hm1 : m1 < 0
  · go_wp2_with fail
    go_ret
    exact ⟨rfl, (IsX.refl w).trans hx1'⟩
  have hs0' : ∀ x ∈ xs0, x.small 1099511627776 := fun x hx => by
    rcases e1c with h | ⟨_, h⟩
    · omega
    · have := h x hx
      simp only [PersonD.small] at this ⊢
      omega
  go_wp2_with fail
  refine (c_szStringS A1 c1 xs1 m1 w1 hn1 hw1 (by omega) (by omega) (hA1.x ((IsX.refl w).trans hx1'))).mono ?_
  rintro e w2 ⟨m2, rfl, e2a, e2b, e2c, hx2'⟩
  by_cases hm2 : m2 < 0
  · go_wp2_with fail
    go_ret
    exact ⟨rfl, ((IsX.refl w).trans hx1').trans hx2'⟩
  have hn0' : xs0.length ≤ 1099511627776 := by omega
  have hn1' : xs1.length ≤ 1099511627776 := by omega
  go_wp2_with fail
  refine (c_toPersonS A0 c0 xs0 w2 hn0' hs0' (hA0.x (((IsX.refl w).trans hx1').trans hx2'))).mono ?_
  rintro e w3 ⟨g3, rfl, hg3, hB3, hx3'⟩
  go_wp2_with fail
  refine (c_toStringS A1 c1 xs1 w3 hn1' (hA1.x ((((IsX.refl w).trans hx1').trans hx2').trans hx3'))).mono ?_
  rintro e w4 ⟨g4, rfl, hg4, hB4, hx4'⟩
  go_wp2_with fail
  refine (s_FewestDays (some ⟨g3, 0, none⟩) xs0.length xs0 (some ⟨g4, 0, none⟩) xs1.length xs1 n2 n3 n4 w4 hn0' hw0 hs0' ((hB3.x ((IsX.refl w3).trans hx4')).rd) hn1' hw1 ((hB4.x (IsX.refl w4)).rd strC_len) hb2 hb3 hb4).mono ?_
  rintro e w5 ⟨AR5, cR5, rfl, hR5, hx5'⟩
  go_wp2_with fail
  refine (c_toPersonS A0 c0 xs0 w5 hn0' hs0' (hA0.x ((((((IsX.refl w).trans hx1').trans hx2').trans hx3').trans hx4').trans hx5'))).mono ?_
  rintro e w6 ⟨g6, rfl, hg6, hB6, hx6'⟩
  go_wp2_with fail
  refine (c_toStringS A1 c1 xs1 w6 hn1' (hA1.x (((((((IsX.refl w).trans hx1').trans hx2').trans hx3').trans hx4').trans hx5').trans hx6'))).mono ?_
  rintro e w7 ⟨g7, rfl, hg7, hB7, hx7'⟩
  go_wp2_with fail
  refine (i_FewestDays (some ⟨g6, 0, none⟩) xs0.length xs0 (some ⟨g7, 0, none⟩) xs1.length xs1 n2 n3 n4 w7 hn0' hw0 hs0' ((hB6.x ((IsX.refl w6).trans hx7')).rd) hn1' hw1 ((hB7.x (IsX.refl w7)).rd strC_len) hb2 hb3 hb4).mono ?_
  rintro e w8 ⟨AR8, cR8, rfl, hR8, hx8'⟩
  have hzl := (Nat.le_trans (fewZ_len xs0 xs1 n2 n3 n4) (by omega) : (fewZ xs0 xs1 n2 n3 n4).length ≤ 1099511627776)
  go_wp2_with fail
  refine (c_eqInt64S AR8 AR5 cR8 cR5 (fewZ xs0 xs1 n2 n3 n4) w8 hzl ((hR8).rd (by omega) intC_len rfl) ((hR5.x ((((IsX.refl w5).trans hx6').trans hx7').trans hx8')).rd (by omega) intC_len rfl)).mono ?_
  rintro e w9 ⟨rfl, hx9'⟩
  go_wp2_with fail
  refine (c_toPersonS A0 c0 xs0 w9 hn0' hs0' (hA0.x ((((((((((IsX.refl w).trans hx1').trans hx2').trans hx3').trans hx4').trans hx5').trans hx6').trans hx7').trans hx8').trans hx9'))).mono ?_
  rintro e w10 ⟨g10, rfl, hg10, hB10, hx10'⟩
  go_wp2_with fail
  refine (c_eqPersonS (some ⟨g6, 0, none⟩) (some ⟨g10, 0, none⟩) xs0.length xs0.length xs0 w10 hn0' hs0' ((hB6.x (((((IsX.refl w6).trans hx7').trans hx8').trans hx9').trans hx10')).rd) (hB10.rd)).mono ?_
  rintro e w11 ⟨rfl, hx11'⟩
  go_wp2_with fail
  refine (c_toStringS A1 c1 xs1 w11 hn1' (hA1.x ((((((((((((IsX.refl w).trans hx1').trans hx2').trans hx3').trans hx4').trans hx5').trans hx6').trans hx7').trans hx8').trans hx9').trans hx10').trans hx11'))).mono ?_
  rintro e w12 ⟨g12, rfl, hg12, hB12, hx12'⟩
  go_wp2_with fail
  refine (c_eqStringS (some ⟨g7, 0, none⟩) (some ⟨g12, 0, none⟩) xs1.length xs1.length xs1 w12 hn1' ((hB7.x ((((((IsX.refl w7).trans hx8').trans hx9').trans hx10').trans hx11').trans hx12')).rd strC_len) (hB12.rd strC_len)).mono ?_
  rintro e w13 ⟨rfl, hx13'⟩
  have HW := hide ((((((((((((((IsX.refl w).trans hx1').trans hx2').trans hx3').trans hx4').trans hx5').trans hx6').trans hx7').trans hx8').trans hx9').trans hx10').trans hx11').trans hx12').trans hx13')
  have HS := hide (((((((((IsX.refl w5).trans hx6').trans hx7').trans hx8').trans hx9').trans hx10').trans hx11').trans hx12').trans hx13')
  have HG : Hid (Own intC 1 2 w13 w7.heap.size _ _) := hide (hR8.x ((((((IsX.refl w8).trans hx9').trans hx10').trans hx11').trans hx12').trans hx13'))
  have HRS := hide hR5
  have hsS : ∀ x ∈ xs0, x.small 1048576 := fun x hx => by
    rcases e1c with h | ⟨_, h⟩
    · omega
    · have := h x hx
      simp only [PersonD.small] at this ⊢
      omega
  have hnS : xs0.length ≤ 1048576 := by
    rcases e1c with h | ⟨h, _⟩ <;> omega
  obtain ⟨rs0, hrl0, hrO0, hrg0, hrR0, hrM0⟩ := hB6.rows
  have HRO0 := hide (hrO0.x ((((((((IsX.refl w6).trans hx7').trans hx8').trans hx9').trans hx10').trans hx11').trans hx12').trans hx13'))
  have HRR0 := hide (fun r hr => (hrR0 r hr).x ((((((((IsX.refl w6).trans hx7').trans hx8').trans hx9').trans hx10').trans hx11').trans hx12').trans hx13'))
  have HRS0 := hide (show ∀ r ∈ rs0, r.Days.length ≤ 1048576 from fun r hr => by
    have h := hsS _ (hrM0 r hr)
    simp only [PersonD.small, PersonR.data] at h
    omega)
  have HHI : Hid (w6.heap.size ≤ w7.heap.size) := hide ((IsX.refl w6).trans hx7').size
  have HRG0 := hide hrg0
  have HRL0 := hide hrl0
  have HL0 : Hid (w5.heap.size ≤ g6 ∧ g6 < w7.heap.size) := by
    unfold Hid
    have y6 := hx6'.size; have y7 := hx7'.size
    omega
  clear hrl0 hrO0 hrg0 hrR0 hrM0 hsS
  have HX1 := hide ((hB7.x (((((((IsX.refl w7).trans hx8').trans hx9').trans hx10').trans hx11').trans hx12').trans hx13')).own' strC_len (Nat.le_refl g7) (by unfold maxLen; omega))
  have HL1 : Hid (w5.heap.size ≤ g7 ∧ g7 < w7.heap.size) := by
    unfold Hid
    have z1 := hB7.lt
    have y6 := hx6'.size; have y7 := hx7'.size
    omega
  have HZ0 : Hid (w.heap.size ≤ w5.heap.size) := hide ((((((IsX.refl w).trans hx1').trans hx2').trans hx3').trans hx4').trans hx5').size
  have HZ1 : Hid (w5.heap.size ≤ w7.heap.size) := hide (((IsX.refl w5).trans hx6').trans hx7').size
  clear hx1' hx2' hx3' hx4' hx5' hx6' hx7' hx8' hx9' hx10' hx11' hx12' hx13'
  clear hR5 hR8
  go_wp2_with fail
  refine (c_markPersonSB g6 w6.heap.size xs0.length rs0 xs0.length _ w13 HRL0.out.symm hnS (by omega) (by omega) HRS0.out HRG0.out HRO0.out HRR0.out).mono ?_
  rintro e w14 ⟨kk, rfl, hkk, hkk1, htt⟩
  replace HX1 := hide (own_touch HX1.out htt hg7)
  replace HW := hide (htt.x HW.out (by have := HL0.out; have := HZ0.out; omega))
  replace HS := hide (htt.x HS.out HL0.out.1)
  replace HG : Hid (Own intC 1 2 w14 w7.heap.size _ _) := hide (own_touch HG.out htt HHI.out)
  clear htt
  go_wp2_with fail
  refine (c_markStringS (some ⟨g7, 0, none⟩) xs1.length xs1.length g7 _ _ w14 hn1' (by omega) (by omega) HX1.out).mono ?_
  rintro e w15 ⟨rfl, L15, _, _, hgr⟩
  replace hgr : _root_.Go.World.grownBy w14 w15 (some g7) := hgr
  replace HW := hide (IsX.grown HW.out hgr (by intro k hk; injection hk with hk; have := HL1.out; have := HZ0.out; omega))
  replace HS := hide (IsX.grown HS.out hgr (by intro k hk; injection hk with hk; have := HL1.out; omega))
  replace HG : Hid (Own intC 1 2 w15 w7.heap.size _ _) := hide (own_under HG.out hgr HL1.out.2)
  clear hgr
  go_wp2_with fail
  refine (c_eqInt64S AR8 AR5 cR8 cR5 (fewZ xs0 xs1 n2 n3 n4) w15 hzl (Own.rd (cells := intC) (k := 1) (t := 2) (by omega) intC_len HG.out rfl) ((HRS.out.x HS.out).rd (by omega) intC_len rfl)).mono ?_
  rintro e w16 ⟨rfl, hxx⟩
  replace HW := hide (HW.out.trans hxx)
  replace HS := hide (HS.out.trans hxx)
  replace HG := hide (own_x HG.out hxx)
  clear hxx
  go_wp2_with fail
  refine (c_markInt64S AR8 cR8 ((fewZ xs0 xs1 n2 n3 n4)).length w7.heap.size _ 1 w16 hzl (by omega) (by omega) HG.out).mono ?_
  rintro e w17 ⟨rfl, LG, hO, hM, hgr⟩
  replace HW := hide (IsX.grown HW.out hgr (by intro k hk; have := (HG.out.lt k hk).1; have := HZ0.out; have := HZ1.out; omega))
  replace HS := hide (IsX.grown HS.out hgr (by intro k hk; have := (HG.out.lt k hk).1; have := HZ1.out; omega))
  replace HG := hide hO
  have HM := hide hM
  clear hgr hO hM
  go_wp2_with fail
  refine (c_heldInt64S AR8 cR8 ((fewZ xs0 xs1 n2 n3 n4)).length w7.heap.size LG 1 w17 hzl (by omega) (by omega) HG.out HM.out).mono ?_
  rintro e w18 ⟨rfl, hxx⟩
  replace HW := hide (HW.out.trans hxx)
  replace HS := hide (HS.out.trans hxx)
  replace HG := hide (own_x HG.out hxx)
  clear hxx
  go_wp2_with fail
  refine (c_toPersonS A0 c0 xs0 w18 hn0' hs0' (hA0.x (HW.out))).mono ?_
  rintro e w19 ⟨g19, rfl, hg19, hB19, hx19'⟩
  replace HW := hide (HW.out.trans hx19')
  replace HS := hide (HS.out.trans hx19')
  replace HG := hide (own_x HG.out hx19')
  go_wp2_with fail
  refine (c_toStringS A1 c1 xs1 w19 hn1' (hA1.x (HW.out))).mono ?_
  rintro e w20 ⟨g20, rfl, hg20, hB20, hx20'⟩
  replace HW := hide (HW.out.trans hx20')
  replace HS := hide (HS.out.trans hx20')
  replace HG := hide (own_x HG.out hx20')
  go_wp2_with fail
  refine (i_FewestDays (some ⟨g19, 0, none⟩) xs0.length xs0 (some ⟨g20, 0, none⟩) xs1.length xs1 n2 n3 n4 w20 hn0' hw0 hs0' ((hB19.x ((IsX.refl w19).trans hx20')).rd) hn1' hw1 ((hB20.x (IsX.refl w20)).rd strC_len) hb2 hb3 hb4).mono ?_
  rintro e w21 ⟨AR21, cR21, rfl, hR21, hx21'⟩
  replace HW := hide (HW.out.trans hx21')
  replace HS := hide (HS.out.trans hx21')
  replace HG := hide (own_x HG.out hx21')
  go_wp2_with fail
  refine (c_eqInt64S AR21 AR5 cR21 cR5 (fewZ xs0 xs1 n2 n3 n4) w21 hzl ((hR21).rd (by omega) intC_len rfl) ((HRS.out.x HS.out).rd (by omega) intC_len rfl)).mono ?_
  rintro e w22 ⟨rfl, hxx⟩
  replace HW := hide (HW.out.trans hxx)
  replace HS := hide (HS.out.trans hxx)
  replace HG := hide (own_x HG.out hxx)
  clear hxx
  go_wp2_with fail
  refine (c_heldInt64S AR8 cR8 ((fewZ xs0 xs1 n2 n3 n4)).length w7.heap.size LG 1 w22 hzl (by omega) (by omega) HG.out HM.out).mono ?_
  rintro e w23 ⟨rfl, hxx⟩
  replace HW := hide (HW.out.trans hxx)
  replace HS := hide (HS.out.trans hxx)
  replace HG := hide (own_x HG.out hxx)
  clear hxx
  go_wp2_with fail
  go_ret
  exact ⟨rfl, HW.out⟩

end Go.Proofs.Ytfkhhioadklomaa
