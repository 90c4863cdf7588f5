/- The law FnExactAddRun: the walk through the law's own text. Conditions: those of the row's arguments alone. -/
import Derived.Test.YteneapchgmmhbaaAddRunS
import Derived.Test.YteneapchgmmhbaaAddRunI
import Derived.Test.YteneapchgmmhbaaRunVal
namespace Go.Proofs.Yteneapchgmmhbaa
set_option linter.unusedVariables false
open Go.RowKit

theorem hB3x {w w' : World} {g : Nat} {xs : List RunD} (h : MadeRun w g xs) (hx : IsX w w') : MadeRun w' g xs := h.x hx
set_option maxRecDepth 100000 in
set_option maxHeartbeats 12800000 in
theorem law_FnExactAddRun (A0 : Option Addr) (c0 : Nat) (xs0 : List RunD) (x1 : RunD) (qA rA : Option Addr) (qC rC : Nat) (w : World) (hn0 : xs0.length ≤ maxLen) (hw0 : ∀ x ∈ xs0, x.wf) (hA0 : RdRun 0 w A0 xs0) (hx1 : x1.wf) (hq : Rd strC 1 w qA x1.Cues) (hr : Rd RemarkD.cells 4 w rA x1.Remarks) :
    Calls Try.prog 4 #[.slice A0 xs0.length c0, .agg #[.int .i64 x1.Day, .slice qA x1.Cues.length qC, .slice rA x1.Remarks.length rC]] w fun e w' => e = .returned (.bool true) ∧ IsX w w' := by
  obtain ⟨W, hW⟩ : ∃ W, W = w.alloc (.cells #[.int .i64 x1.Day, .slice qA x1.Cues.length qC, .slice rA x1.Remarks.length rC] 34) := ⟨_, rfl⟩
  obtain ⟨B, hB⟩ : ∃ B, B = w.heap.size := ⟨_, rfl⟩
  have hxW : IsX w W := hW ▸ (IsX.refl w).alloc _
  have hBW : Blk W B 34 #[.int .i64 x1.Day, .slice qA x1.Cues.length qC, .slice rA x1.Remarks.length rC] := by rw [hW, hB]; exact Blk.new w _ _
  have HXW := hide hxW
  have HA := hide (hA0.x hxW)
  have HQ := hide (hq.x hxW)
  have HRR := hide (hr.x hxW)
  have HBX := hide (show ∀ V, IsX W V → V.cell? ⟨B, 0, none⟩ = some (.int .i64 x1.Day) ∧ V.cell? ⟨B, 1, none⟩ = some (.slice qA x1.Cues.length qC) ∧ V.cell? ⟨B, 2, none⟩ = some (.slice rA x1.Remarks.length rC) from fun V hV => ⟨(hBW.x hV).cell 0, (hBW.x hV).cell 1, (hBW.x hV).cell 2⟩)
  have HBL := hide hBW.lt
  have HBE := hide hB
  clear hA0 hq hr hxW hBW
  go_enter Try.func4, Try.ntmps4
  go_wp2_with fail
  rw [← hW]
  clear hW
  first | rw [← hB] | skip
  clear hB
  refine (c_szRunS A0 c0 xs0 1048576 W hn0 hw0 (by omega) (by omega) HA.out).mono ?_
  rintro e w1 ⟨m1, rfl, e1a, e1b, e1c, hx1'⟩
  by_cases hm1 : m1 < 0
  · go_wp2_with fail
    go_ret
    exact ⟨rfl, HXW.out.trans hx1'⟩
  obtain ⟨hnS, hsS⟩ : xs0.length ≤ 1048576 ∧ ∀ x ∈ xs0, x.small 1048576 := by
    rcases e1c with h | ⟨h1, h⟩
    · omega
    · exact ⟨by omega, fun x hx => by have := h x hx; simp only [RunD.small] at this ⊢; omega⟩
  have hs0' : ∀ x ∈ xs0, x.small 1099511627776 := fun x hx => by have := hsS x hx; simp only [RunD.small] at this ⊢; omega
  have hn0' : xs0.length ≤ 1099511627776 := by omega
  have HSS := hide hsS
  have HS0 := hide hs0'
  have HW0 := hide hw0
  clear e1c hsS hs0' hw0
  have HX1 := hide hx1'
  clear hx1'
  obtain ⟨d0, d1, d2⟩ := HBX.out w1 (HX1.out)
  have dl : B < w1.heap.size := Nat.lt_of_lt_of_le HBL.out (HX1.out).size
  go_wp2_with fail
  refine (c_szRun x1 qA rA qC rC m1 w1 hx1 (by omega) (by omega) (HQ.out.x HX1.out) (HRR.out.x HX1.out)).mono ?_
  rintro e w2 ⟨m2, rfl, e2a, e2b, e2c, hx2'⟩
  clear d0 d1 d2 dl
  have HX2 := hide (HX1.out.trans hx2')
  clear hx2'
  by_cases hm2 : m2 < 0
  · go_wp2_with fail
    go_ret
    exact ⟨rfl, HXW.out.trans HX2.out⟩
  have hxm : x1.small 1048576 := by
    rcases e2c with h | h
    · omega
    · simp only [RunD.small] at h ⊢; omega
  have hxb : x1.small 1099511627776 := by simp only [RunD.small] at hxm ⊢; omega
  obtain ⟨hmc, hmr⟩ : x1.Cues.length ≤ 1048576 ∧ x1.Remarks.length ≤ 1048576 := by simp only [RunD.small] at hxm; omega
  have HXM := hide hxm
  have HXB := hide hxb
  have HXF := hide hx1
  clear hxm hxb hx1 e2c
  obtain ⟨d0, d1, d2⟩ := HBX.out w2 (HX2.out)
  have dl : B < w2.heap.size := Nat.lt_of_lt_of_le HBL.out (HX2.out).size
  have n0 := World.new_ne w2 ⟨B, 0, none⟩ d0
  go_wp2_with fail
  go_region_held3 (fun V => V.cell? ⟨B, 0, none⟩ = some (.int .i64 x1.Day) ∧ V.cell? ⟨B, 1, none⟩ = some (.slice qA x1.Cues.length qC) ∧ V.cell? ⟨B, 2, none⟩ = some (.slice rA x1.Remarks.length rC)) (first | go_keep | (exact HBX.out _ (IsX.drew HX2.out)) | (exact HBX.out _ HX3.out) | (exact HBX.out _ HX4.out) | (exact HBX.out _ HX5.out))
    ((first
      | (go_at_call 7; refine (c_toRunS A0 c0 xs0 w2.drew hn0' HS0.out (HA.out.x (IsX.drew HX2.out))).mono ?_; rintro e w3 ⟨g3, rfl, hg3, hB3, hx3'⟩; have HX3 := hide ((IsX.drew HX2.out).trans hx3'); have HB3 := hide hB3; clear hB3 hx3')
      | (go_at_call 14; refine (c_toRun x1 qA rA qC rC w3 HXB.out (HQ.out.x HX3.out) (HRR.out.x HX3.out)).mono ?_; rintro e w4 ⟨gC4, gR4, rfl, hgC4, hBC4, hgR4, hBR4, hx4'⟩; have HX4 := hide (HX3.out.trans hx4'); have HB4 := hide (hB3x HB3.out hx4'); have HBC4 := hide hBC4; have HBR4 := hide hBR4; clear hBC4 hBR4 hx4')
      | (go_at_call 13; refine (s_AddRun (some ⟨g3, 0, none⟩) xs0.length xs0 x1 (some ⟨gC4, 0, none⟩) (some ⟨gR4, 0, none⟩) x1.Cues.length x1.Remarks.length w4 hn0' HW0.out HS0.out HB4.out.rd HXF.out HXM.out (HBC4.out.rd strC_len) (HBR4.out.rd RemarkD.cells_len)).mono ?_; rintro e w5 ⟨AR5, cR5, esR5, rfl, hR5, hF5, hx5'⟩; have HX5 := hide (HX4.out.trans hx5'); have HR5 := hide hR5; have HF5 := hide hF5; clear hR5 hF5 hx5')))
  clear n0 d0 d1 d2 dl HB3 HB4 HBC4 HBR4 hg3 hgC4 hgR4 HX3 HX4
  have hzl := addRZ_len xs0 x1
  have hzm := addRZ_sm xs0 x1
  have hzs : ∀ x ∈ (addRZ xs0 x1), x.small 1099511627776 := fun x hx => by have := hzm x hx; simp only [RunD.small] at this ⊢; omega
  go_wp2_with fail
  refine (c_toRunS A0 c0 xs0 w5 hn0' HS0.out (HA.out.x HX5.out)).mono ?_
  rintro e w6 ⟨g6, rfl, hg6, hB6, hx6'⟩
  have HX6 := hide (HX5.out.trans hx6')
  have HB6 := hide hB6
  have HG6 : Hid (w5.heap.size ≤ g6 ∧ g6 < w6.heap.size) := hide ⟨hg6, by obtain ⟨rs, _, hb, _⟩ := hB6; exact hb.lt⟩
  have HS6 := hide hx6'
  clear hB6 hx6' hg6
  obtain ⟨d0, d1, d2⟩ := HBX.out w6 (HX6.out)
  have dl : B < w6.heap.size := Nat.lt_of_lt_of_le HBL.out (HX6.out).size
  go_wp2_with fail
  refine (c_toRun x1 qA rA qC rC w6 HXB.out (HQ.out.x HX6.out) (HRR.out.x HX6.out)).mono ?_
  rintro e w7 ⟨gC7, gR7, rfl, hgC7, hBC7, hgR7, hBR7, hx7'⟩
  clear d0 d1 d2 dl
  have HX7 := hide (HX6.out.trans hx7')
  have HBC7 := hide hBC7
  have HBR7 := hide hBR7
  have HGC : Hid (w6.heap.size ≤ gC7 ∧ gC7 < w7.heap.size) := hide ⟨hgC7, hBC7.lt⟩
  have HGR : Hid (w6.heap.size ≤ gR7 ∧ gR7 < w7.heap.size) := hide ⟨hgR7, hBR7.lt⟩
  have HS7 := hide hx7'
  clear hBC7 hBR7 hx7' hgC7 hgR7
  go_wp2_with fail
  generalize hw8 : World.alloc w7 _ = w8
  obtain ⟨B8, hB8⟩ : ∃ b, b = w7.heap.size := ⟨_, rfl⟩
  have hbox8 : Blk w8 B8 39 #[.int .i64 x1.Day, .slice (some ⟨gC7, 0, none⟩) x1.Cues.length x1.Cues.length, .slice (some ⟨gR7, 0, none⟩) x1.Remarks.length x1.Remarks.length] := by rw [← hw8, hB8]; exact Blk.new _ _ _
  have hs78 : IsX w7 w8 := by rw [← hw8]; exact (IsX.refl w7).alloc _
  have HX8 := hide (HX7.out.trans hs78)
  have HS8 := hide hs78
  have HBOX8 := hide hbox8
  have HB8E := hide hB8
  first | rw [← hB8] | skip
  clear hw8 hB8 hs78 hbox8
  have f0 := HBOX8.out.cell 0
  have f1 := HBOX8.out.cell 1
  have f2 := HBOX8.out.cell 2
  have fl := HBOX8.out.lt
  simp at f0 f1 f2
  go_wp2_with fail
  refine (i_AddRun (some ⟨g6, 0, none⟩) xs0.length xs0 x1 (some ⟨gC7, 0, none⟩) (some ⟨gR7, 0, none⟩) x1.Cues.length x1.Remarks.length w8 hn0' HW0.out HS0.out (HB6.out.x (HS7.out.trans HS8.out)).rd HXF.out HXM.out ((HBC7.out.x HS8.out).rd strC_len) ((HBR7.out.x HS8.out).rd RemarkD.cells_len)).mono ?_
  rintro e w9 ⟨AR9, cR9, esR9, rfl, hR9, hF9, hx9'⟩
  clear f0 f1 f2 fl
  obtain ⟨HGB, hHGB⟩ : ∃ b, b = w8.heap.size := ⟨_, rfl⟩
  have HGBE := hide hHGB
  have HW := hide (HX8.out.trans hx9')
  have HS := hide (((HS6.out.trans HS7.out).trans HS8.out).trans hx9')
  have HG : Hid (RunRow w9 HGB (.slice AR9 ((addRZ xs0 x1)).length cR9) esR9) := hide (by rw [hHGB]; exact hR9)
  have HM := hide hx9'
  have HF9 := hide hF9
  clear hHGB hR9 hF9 hx9'
  go_wp2_with fail
  refine (c_eqRunS AR9 AR5 cR9 cR5 (addRZ xs0 x1) w9 (by omega) hzs (HG.out.rd HF9.out) ((HR5.out.x HS.out).rd HF5.out)).mono ?_
  rintro e w10 ⟨rfl, hxx⟩
  replace HM := hide (HM.out.trans hxx)
  replace HW := hide (HW.out.trans hxx)
  replace HS := hide (HS.out.trans hxx)
  replace HG := hide (HG.out.x hxx)
  clear hxx
  go_wp2_with fail
  refine (c_toRunS A0 c0 xs0 w10 hn0' HS0.out (HA.out.x HW.out)).mono ?_
  rintro e w11 ⟨g11, rfl, hg11, hB11, hxx⟩
  replace HM := hide (HM.out.trans hxx)
  replace HW := hide (HW.out.trans hxx)
  replace HS := hide (HS.out.trans hxx)
  replace HG := hide (HG.out.x hxx)
  clear hxx
  go_wp2_with fail
  refine (c_eqRunS (some ⟨g6, 0, none⟩) (some ⟨g11, 0, none⟩) xs0.length xs0.length xs0 w11 hn0' HS0.out (HB6.out.x ((HS7.out.trans HS8.out).trans HM.out)).rd hB11.rd).mono ?_
  rintro e w12 ⟨rfl, hxx⟩
  replace HM := hide (HM.out.trans hxx)
  replace HW := hide (HW.out.trans hxx)
  replace HS := hide (HS.out.trans hxx)
  replace HG := hide (HG.out.x hxx)
  clear hxx
  clear hB11 hg11
  have f0 := (HBOX8.out.x HM.out).cell 0
  have f1 := (HBOX8.out.x HM.out).cell 1
  have f2 := (HBOX8.out.x HM.out).cell 2
  have fl := (HBOX8.out.x HM.out).lt
  simp at f0 f1 f2
  obtain ⟨d0, d1, d2⟩ := HBX.out w12 (HW.out)
  have dl : B < w12.heap.size := Nat.lt_of_lt_of_le HBL.out (HW.out).size
  have n0 := World.new_ne w12 ⟨B, 0, none⟩ d0
  have n1 := World.new_ne w12 ⟨B8, 0, none⟩ f0
  have HB8S := hide (show ∀ V, IsX w8 V → V.cell? ⟨B8, 0, none⟩ = some (.int .i64 x1.Day) ∧ V.cell? ⟨B8, 1, none⟩ = some (.slice (some ⟨gC7, 0, none⟩) x1.Cues.length x1.Cues.length) ∧ V.cell? ⟨B8, 2, none⟩ = some (.slice (some ⟨gR7, 0, none⟩) x1.Remarks.length x1.Remarks.length) from fun V hV => ⟨(HBOX8.out.x hV).cell 0, (HBOX8.out.x hV).cell 1, (HBOX8.out.x hV).cell 2⟩)
  go_wp2_with fail
  go_region_held3 (fun V => (V.cell? ⟨B, 0, none⟩ = some (.int .i64 x1.Day) ∧ V.cell? ⟨B, 1, none⟩ = some (.slice qA x1.Cues.length qC) ∧ V.cell? ⟨B, 2, none⟩ = some (.slice rA x1.Remarks.length rC)) ∧ (V.cell? ⟨B8, 0, none⟩ = some (.int .i64 x1.Day) ∧ V.cell? ⟨B8, 1, none⟩ = some (.slice (some ⟨gC7, 0, none⟩) x1.Cues.length x1.Cues.length) ∧ V.cell? ⟨B8, 2, none⟩ = some (.slice (some ⟨gR7, 0, none⟩) x1.Remarks.length x1.Remarks.length))) (first | go_keep | (exact ⟨HBX.out _ (IsX.drew HW.out), HB8S.out _ (IsX.drew HM.out)⟩) | (exact ⟨HBX.out _ (HW.out.trans HX13.out), HB8S.out _ (HM.out.trans HX13.out)⟩) | (exact ⟨HBX.out _ (HW.out.trans HX14.out), HB8S.out _ (HM.out.trans HX14.out)⟩))
    ((first
      | (go_at_call 14; refine (c_toRun x1 qA rA qC rC w12.drew HXB.out (HQ.out.x (IsX.drew HW.out)) (HRR.out.x (IsX.drew HW.out))).mono ?_; rintro e w13 ⟨gC13, gR13, rfl, hgC13, hBC13, hgR13, hBR13, hx13'⟩; have HX13 : Hid (IsX w12 w13) := hide ((IsX.refl w12).drew.trans hx13'); have HBC13 := hide hBC13; have HBR13 := hide hBR13; clear hBC13 hBR13 hx13' hgC13 hgR13)
      | (go_at_call 16; refine (c_eqRun x1 (some ⟨gC7, 0, none⟩) (some ⟨gR7, 0, none⟩) x1.Cues.length x1.Remarks.length (some ⟨gC13, 0, none⟩) (some ⟨gR13, 0, none⟩) x1.Cues.length x1.Remarks.length w13 HXB.out ((HBC7.out.x (HS8.out.trans (HM.out.trans HX13.out))).rd strC_len) ((HBR7.out.x (HS8.out.trans (HM.out.trans HX13.out))).rd RemarkD.cells_len) (HBC13.out.rd strC_len) (HBR13.out.rd RemarkD.cells_len)).mono ?_; rintro e w14 ⟨rfl, hx14'⟩; have HX14 : Hid (IsX w12 w14) := hide (HX13.out.trans hx14'); clear hx14')))
  clear n0 n1 d0 d1 d2 dl f0 f1 f2 fl HBC13 HBR13 HX13
  replace HM := hide (HM.out.trans HX14.out)
  replace HW := hide (HW.out.trans HX14.out)
  replace HS := hide (HS.out.trans HX14.out)
  replace HG := hide (HG.out.x HX14.out)
  clear HX14
  obtain ⟨rs0, hrl0, hrO0, hrg0, hrR0, hrM0⟩ := HB6.out.rows
  have HRO0 := hide (hrO0.x (HS7.out.trans (HS8.out.trans HM.out)))
  have HRR0 := hide (fun r hr => (hrR0 r hr).x (HS7.out.trans (HS8.out.trans HM.out)))
  have HRS0 := hide (show ∀ r ∈ rs0, r.Cues.length ≤ 1048576 ∧ r.Remarks.length ≤ 1048576 from fun r hr => by
    have h := HSS.out _ (hrM0 r hr)
    simp only [RunD.small, RunR.data] at h
    omega)
  have HRG0 := hide hrg0
  have HRL0 := hide hrl0
  have HB7 := hide (HBC7.out.x (HS8.out.trans HM.out))
  have HB7r := hide (HBR7.out.x (HS8.out.trans HM.out))
  have HBOX := hide (HBOX8.out.x HM.out)
  have HSZ : Hid (w6.heap.size ≤ w7.heap.size ∧ w7.heap.size < HGB ∧ w.heap.size ≤ w5.heap.size ∧ W.heap.size ≤ w5.heap.size) := hide (by
    have h1 := HS7.out.size
    have h2 := HBOX8.out.lt
    have h3 := HB8E.out
    have h4 := HGBE.out
    have h5 := HXW.out.size
    have h6 := HX5.out.size
    omega)
  clear hrl0 hrO0 hrg0 hrR0 hrM0 HM HB6 HBC7 HBR7 HBOX8
  go_wp2_with fail
  refine (c_markRunSB g6 w6.heap.size xs0.length rs0 xs0.length _ w14 HRL0.out.symm hnS (by omega) (by omega) HRS0.out HRG0.out HRO0.out HRR0.out).mono ?_
  rintro e w15 ⟨kk, rfl, hkk0, hkk1, htt⟩
  replace HW := hide (htt.x HW.out (by have := HG6.out; have := HSZ.out; omega))
  replace HS := hide (htt.x HS.out HG6.out.1)
  replace HG := hide (HG.out.touch htt (by have := HSZ.out; omega))
  replace HB7 := hide (HB7.out.touch htt (.inr HGC.out.1))
  replace HB7r := hide (HB7r.out.touch htt (.inr HGR.out.1))
  replace HBOX := hide (HBOX.out.touch htt (.inr (by have := HSZ.out; have := HB8E.out; omega)))
  clear htt HRO0 HRR0
  have f0 := HBOX.out.cell 0
  have f1 := HBOX.out.cell 1
  have f2 := HBOX.out.cell 2
  have fl := HBOX.out.lt
  simp at f0 f1 f2
  go_wp2_with fail
  refine (c_markRun x1.Day gC7 gR7 x1.Cues.length x1.Remarks.length w6.heap.size w7.heap.size _ _ kk w15 hmc hmr hkk0 (by omega) HB7.out (by rw [List.size_toArray, flat_len strC_len]) HB7r.out (by rw [List.size_toArray, flat_len RemarkD.cells_len]) HGC.out HGR.out).mono ?_
  rintro e w16 ⟨kq, rfl, hkq, htt⟩
  replace HW := hide (htt.x HW.out (by have := HG6.out; have := HSZ.out; omega))
  replace HS := hide (htt.x HS.out (by have := HG6.out; omega))
  replace HG := hide (HG.out.touch htt (by have := HSZ.out; omega))
  clear htt HB7 HB7r HBOX f0 f1 f2 fl
  have hkqn : decide (kq < 0) = false := decide_eq_false (by omega)
  go_wp2_with fail
  refine (c_eqRunS AR9 AR5 cR9 cR5 (addRZ xs0 x1) w16 (by omega) hzs (HG.out.rd HF9.out) ((HR5.out.x HS.out).rd HF5.out)).mono ?_
  rintro e w17 ⟨rfl, hxx⟩
  replace HW := hide (HW.out.trans hxx)
  replace HS := hide (HS.out.trans hxx)
  replace HG := hide (HG.out.x hxx)
  clear hxx
  go_wp2_with fail
  refine (c_markRunSO AR9 ((addRZ xs0 x1)).length cR9 HGB esR9 1 w17 HF9.out.len.symm hzl (by omega) (by omega) (HF9.out.sm hzm) HG.out).mono ?_
  rintro e w18 ⟨km, esM, rfl, hkm0, hkml, hkms, hkmk, hO, hbl⟩
  replace HW := hide (IsX.of_below (HW.out.below.trans (hbl.mono (by have := HSZ.out; have := HG6.out; omega))))
  replace HS := hide (IsX.of_below (HS.out.below.trans (hbl.mono (by have := HSZ.out; have := HG6.out; omega))))
  replace HG := hide hO
  have HKL := hide hkml
  have HKS := hide hkms
  have HKM := hide hkmk
  have hkn : decide (km < 0) = false := decide_eq_false (by omega)
  clear hbl hO hkml hkms hkmk
  go_wp2_with fail
  refine (c_heldRunSO AR9 ((addRZ xs0 x1)).length cR9 HGB esM 1 km w18 HKL.out hzl (by omega) (by omega) HKS.out HKM.out HG.out).mono ?_
  rintro e w19 ⟨rfl, hxx⟩
  replace HW := hide (HW.out.trans hxx)
  replace HS := hide (HS.out.trans hxx)
  replace HG := hide (HG.out.x hxx)
  clear hxx
  obtain ⟨d0, d1, d2⟩ := HBX.out w19 (HW.out)
  have dl : B < w19.heap.size := Nat.lt_of_lt_of_le HBL.out (HW.out).size
  have n0 := World.new_ne w19 ⟨B, 0, none⟩ d0
  go_wp2_with fail
  go_region_held3 (fun V => V.cell? ⟨B, 0, none⟩ = some (.int .i64 x1.Day) ∧ V.cell? ⟨B, 1, none⟩ = some (.slice qA x1.Cues.length qC) ∧ V.cell? ⟨B, 2, none⟩ = some (.slice rA x1.Remarks.length rC)) (first | go_keep | (exact HBX.out _ (IsX.drew HW.out)) | (exact HBX.out _ (HW.out.trans HX20.out)) | (exact HBX.out _ (HW.out.trans HX21.out)) | (exact HBX.out _ (HW.out.trans HX22.out)))
    ((first
      | (go_at_call 7; refine (c_toRunS A0 c0 xs0 w19.drew hn0' HS0.out (HA.out.x (IsX.drew HW.out))).mono ?_; rintro e w20 ⟨g20, rfl, hg20, hB20, hx20'⟩; have HX20 : Hid (IsX w19 w20) := hide ((IsX.refl w19).drew.trans hx20'); have HB20 := hide hB20; clear hB20 hx20' hg20)
      | (go_at_call 14; refine (c_toRun x1 qA rA qC rC w20 HXB.out (HQ.out.x (HW.out.trans HX20.out)) (HRR.out.x (HW.out.trans HX20.out))).mono ?_; rintro e w21 ⟨gC21, gR21, rfl, hgC21, hBC21, hgR21, hBR21, hx21'⟩; have HX21 : Hid (IsX w19 w21) := hide (HX20.out.trans hx21'); have HB21 := hide (hB3x HB20.out hx21'); have HBC21 := hide hBC21; have HBR21 := hide hBR21; clear hBC21 hBR21 hx21' hgC21 hgR21)
      | (go_at_call 15; refine (i_AddRun (some ⟨g20, 0, none⟩) xs0.length xs0 x1 (some ⟨gC21, 0, none⟩) (some ⟨gR21, 0, none⟩) x1.Cues.length x1.Remarks.length w21 hn0' HW0.out HS0.out HB21.out.rd HXF.out HXM.out (HBC21.out.rd strC_len) (HBR21.out.rd RemarkD.cells_len)).mono ?_; rintro e w22 ⟨AR22, cR22, esR22, rfl, hR22, hF22, hx22'⟩; have HX22 : Hid (IsX w19 w22) := hide (HX21.out.trans hx22'); have HR22 := hide hR22; have HF22 := hide hF22; clear hR22 hF22 hx22')))
  clear n0 d0 d1 d2 dl HB20 HB21 HBC21 HBR21 HX20 HX21
  replace HW := hide (HW.out.trans HX22.out)
  replace HS := hide (HS.out.trans HX22.out)
  replace HG := hide (HG.out.x HX22.out)
  clear HX22
  go_wp2_with fail
  refine (c_eqRunS AR22 AR5 cR22 cR5 (addRZ xs0 x1) w22 (by omega) hzs (HR22.out.rd HF22.out) ((HR5.out.x HS.out).rd HF5.out)).mono ?_
  rintro e w23 ⟨rfl, hxx⟩
  replace HW := hide (HW.out.trans hxx)
  replace HS := hide (HS.out.trans hxx)
  replace HG := hide (HG.out.x hxx)
  clear hxx
  go_wp2_with fail
  refine (c_heldRunSO AR9 ((addRZ xs0 x1)).length cR9 HGB esM 1 km w23 HKL.out hzl (by omega) (by omega) HKS.out HKM.out HG.out).mono ?_
  rintro e w24 ⟨rfl, hxx⟩
  replace HW := hide (HW.out.trans hxx)
  replace HS := hide (HS.out.trans hxx)
  replace HG := hide (HG.out.x hxx)
  clear hxx
  go_wp2_with fail
  go_ret
  exact ⟨rfl, HXW.out.trans HW.out⟩
end Go.Proofs.Yteneapchgmmhbaa
