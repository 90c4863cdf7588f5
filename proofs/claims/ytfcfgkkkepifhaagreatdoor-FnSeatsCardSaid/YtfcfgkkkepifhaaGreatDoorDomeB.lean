/- The angle of a direction: what the reference and the program compute. Conditions: numbers from -10^7 to 10^7; the table of sines as the program's text lays it. -/
import Derived.Test.YtfcfgkkkepifhaaGreatDoorDomeA
import Derived.Deep.DeepCutAuto
import Derived.Deep.CutRange
namespace Go.Proofs.YtfcfgkkkepifhaaGreatDoor
set_option linter.unusedVariables false
open Go.RowKit

def arcC (y x : Int) : Int := if x = 0 ∧ y = 0 then 6 else 0
def ArcPost (y x : Int) (w : World) (e : Ending) (w' : World) : Prop := e = .returned (.tuple #[.int .i64 (arcZ y x), .int .i64 (arcC y x)]) ∧ IsX w w'
def smallI (a : Int) : Prop := -10000000 ≤ a ∧ a ≤ 10000000
theorem absI_bd {a : Int} (h : smallI a) : 0 ≤ absI a ∧ absI a ≤ 10000000 := by unfold smallI at h; unfold absI; split <;> omega
theorem arc_mid1 {y x : Int} (h : absI x < absI y) : arcMid y x = 90000 - arcLow y x := by simp [arcMid, h]
theorem arc_mid0 {y x : Int} (h : ¬ absI x < absI y) : arcMid y x = arcLow y x := by simp [arcMid, h]
theorem arc_1 {y x : Int} (h1 : 0 ≤ x) (h2 : 0 ≤ y) : arcZ y x = arcMid y x := by simp [arcZ, h1, h2]
theorem arc_2 {y x : Int} (h1 : ¬ 0 ≤ x) (h2 : 0 ≤ y) : arcZ y x = 180000 - arcMid y x := by simp [arcZ, h1, h2]
theorem arc_3 {y x : Int} (h1 : x < 0) (h2 : ¬ 0 ≤ y) : arcZ y x = 180000 + arcMid y x := by simp [arcZ, h1, h2]
theorem arc_4 {y x : Int} (h1 : 0 ≤ x) (h2 : ¬ 0 ≤ y) : arcZ y x = (-arcMid y x) % 360000 := by simp [arcZ, h2]; omega

set_option maxHeartbeats 12800000 in
set_option maxRecDepth 100000 in
theorem c_ArcTan1 (y x u v : Int) (w : World)
    (HWX : Hid (∀ V : World, Calls Tryz.prog 63 #[.int .i64 x, .int .i64 (-1000000000000), .int .i64 1000000000000] V fun e w' => e = .returned (.bool true) ∧ V = w'))
    (HWY : Hid (∀ V : World, Calls Tryz.prog 63 #[.int .i64 y, .int .i64 (-1000000000000), .int .i64 1000000000000] V fun e w' => e = .returned (.bool true) ∧ V = w'))
    (HAX : Hid (∀ V : World, Calls Tryz.prog 96 #[.int .i64 x] V fun e w' => e = .returned (.int .i64 (absI x)) ∧ V = w')) (HAY : Hid (∀ V : World, Calls Tryz.prog 96 #[.int .i64 y] V fun e w' => e = .returned (.int .i64 (absI y)) ∧ V = w'))
    (HUV : Hid (u = min (absI x) (absI y) ∧ v = max (absI x) (absI y))) (hub : 0 ≤ u ∧ u ≤ 10000000) (hvb : 0 ≤ v ∧ v ≤ 10000000) (hax : 0 ≤ absI x ∧ absI x ≤ 10000000) (hay : 0 ≤ absI y ∧ absI y ≤ 10000000) (hx : -10000000 ≤ x ∧ x ≤ 10000000) (hy : -10000000 ≤ y ∧ y ≤ 10000000)
    (HT : Hid (∀ W, IsX w W → sinTab W)) (hz : ((x == 0) = true ∧ (y == 0) = false) ∨ (x == 0) = false) :
    Calls Tryz.prog 131 #[.int .i64 y, .int .i64 x] w fun e w' => e = .returned (.tuple #[.int .i64 (arcZ y x), .int .i64 (arcC y x)]) ∧ IsX w w' := by
  obtain ⟨hub0, hub1⟩ := hub
  obtain ⟨hvb0, hvb1⟩ := hvb
  have HCC : Hid (arcC y x = 0) := hide (by
    unfold arcC
    rcases hz with ⟨_, h⟩ | h <;> simp at h <;> simp [h])
  rcases hz with ⟨ex, ey⟩ | ex
  all_goals
    go_enter Tryz.func131, Tryz.ntmps131
    go_wp2_with fail
    refine (HWX.out _).mono ?_
    rintro e w1 ⟨rfl, rfl⟩
    go_wp2_with fail
    refine (HWY.out _).mono ?_
    rintro e w1 ⟨rfl, rfl⟩
    go_wp2_with fail
    refine (HAX.out _).mono ?_
    rintro e w1 ⟨rfl, rfl⟩
    go_wp2_with fail
    refine (HAY.out _).mono ?_
    rintro e w1 ⟨rfl, rfl⟩
    go_upto_region 6 with fail
    go_cut [8, 9] from 32 to 37 (fun s8 s9 wc => s8 = .int .i64 u ∧ s9 = .int .i64 v ∧ w = wc)
    case first =>
      have h1 := HUV.out.1
      have h2 := HUV.out.2
      go_wp2_with fail
      all_goals
        go_meet
        exact ⟨by congr 1; omega, by congr 1; omega, rfl⟩
    obtain ⟨rfl, rfl, rfl⟩ := hcut
    have HXS := hide (IsX.refl w)
    go_wp2_with fail
    go_loopw [10, 11] (fun lv hv wr => ∃ l h : Int, lv = .int .i64 l ∧ hv = .int .i64 h ∧ 0 ≤ l ∧ l ≤ h ∧ h ≤ 45000 ∧ Hid (ArcAt (arcQ u v) l h) ∧ IsX w wr) (fun lv hv _ => (intOf hv).toNat - (intOf lv).toNat)
    case atStart => exact ⟨0, 45000, rfl, rfl, by omega, by omega, by omega, hide (ArcAt.start _), HXS.out⟩
    case round =>
      clear HXS
      obtain ⟨l, h, rfl, rfl, hl0, hlh, hh, HAT, p, rfl⟩ := hrel
      by_cases hlt : l < h
      · obtain ⟨d, hd⟩ : ∃ d, d = (l + h) / 2 := ⟨_, rfl⟩
        have HD := hide hd
        have td : (l + h).tdiv 2 = d := by rw [Int.tdiv_eq_ediv_of_nonneg (by omega)]; omega
        have td2 : (l + h) / 2 = d := hd.symm
        have hd0 : 0 ≤ d := by omega
        have hd1 : l ≤ d := by omega
        have hd2 : d < h := by omega
        clear hd
        have HSN := hide (fun V (hV : IsX w V) => c_SineOf d V (HT.out V hV) (by omega))
        have HCS := hide (fun V (hV : IsX w V) => c_CosineOf d V (HT.out V hV) (by omega))
        have sb := sinM_bd d
        have cb' := cosM_bd d
        have m1 := mul_bd2 sb (show -10000000 ≤ v ∧ v ≤ 10000000 by omega)
        have m2 := mul_bd2 cb' (show -10000000 ≤ u ∧ u ≤ 10000000 by omega)
        have HQ : Hid (arcQ u v d = decide (cosM d * u ≤ sinM d * v)) := hide rfl
        have HYES := hide (fun hq => HAT.out.yes hlt (by rw [← HD.out]; exact hq))
        have HNO := hide (fun hq => HAT.out.no hlt (by rw [← HD.out]; exact hq))
        rw [← HD.out] at HYES HNO
        rw [show sinA (d % 360000) = sinM d from rfl] at HSN
        rw [show cosA (d % 360000) = cosM d from rfl] at HCS
        generalize sinM d = sv at *
        generalize cosM d = cv at *
        obtain ⟨q1, hq1⟩ : ∃ q1, q1 = sv * v := ⟨_, rfl⟩
        obtain ⟨q2, hq2⟩ : ∃ q2, q2 = cv * u := ⟨_, rfl⟩
        rw [← hq1, ← hq2] at HQ
        rw [← hq1] at m1
        rw [← hq2] at m2
        have e1 : sv * v = q1 := hq1.symm
        have e2 : cv * u = q2 := hq2.symm
        clear hq1 hq2 td2
        by_cases hle : q2 ≤ q1
        · have HAT2 := hide (HYES.out (by rw [HQ.out]; exact decide_eq_true hle))
          have hge : q1 ≥ q2 := hle
          clear HYES HNO HQ
          go_wp2_with fail
          refine (HSN.out _ ⟨p, rfl⟩).mono ?_
          rintro e w2 ⟨rfl, hx2⟩
          have HX2 := hide (IsX.trans ⟨p, rfl⟩ hx2)
          clear hx2
          go_wp2_with fail
          refine (HCS.out _ HX2.out).mono ?_
          rintro e w3 ⟨rfl, hx3⟩
          have HX3 := hide (HX2.out.trans hx3)
          clear hx3
          go_wp2_with fail
          go_roundw
          case rel => exact ⟨l, d, rfl, rfl, hl0, hd1, by omega, HAT2, HX3.out⟩
          case measure => simp [intOf]; omega
        · have HAT2 := hide (HNO.out (by rw [HQ.out]; exact decide_eq_false hle))
          have hge : ¬ q1 ≥ q2 := hle
          clear HYES HNO HQ
          go_wp2_with fail
          refine (HSN.out _ ⟨p, rfl⟩).mono ?_
          rintro e w2 ⟨rfl, hx2⟩
          have HX2 := hide (IsX.trans ⟨p, rfl⟩ hx2)
          clear hx2
          go_wp2_with fail
          refine (HCS.out _ HX2.out).mono ?_
          rintro e w3 ⟨rfl, hx3⟩
          have HX3 := hide (HX2.out.trans hx3)
          clear hx3
          go_wp2_with fail
          go_roundw
          case rel => exact ⟨d + 1, h, rfl, rfl, by omega, by omega, hh, HAT2, HX3.out⟩
          case measure => simp [intOf]; omega
      · obtain rfl : l = h := by omega
        have HLO := hide (show arcLow y x = l by unfold arcLow; rw [← HUV.out.1, ← HUV.out.2]; exact HAT.out.done hlt)
        have hlb := arcLow_bd y x
        rw [HLO.out] at hlb
        clear HAT hlt
        by_cases hm : absI x < absI y
        · have HM := hide (arc_mid1 hm)
          rw [HLO.out] at HM
          have hmd := arcMid_bd y x
          rw [HM.out] at hmd
          by_cases h1 : 0 ≤ x
          · by_cases h2 : 0 ≤ y
            · have HR := hide (arc_1 h1 h2)
              rw [HM.out] at HR
              have g1 : x ≥ 0 := h1
              have g2 : y ≥ 0 := h2
              generalize absI x = ax at *
              generalize absI y = ay at *
              go_wp2_with fail
              go_ret2
              exact ⟨by rw [HR.out, HCC.out]; rfl, ⟨p, rfl⟩⟩
            · have HR := hide (arc_4 h1 h2)
              rw [HM.out] at HR
              have g1 : x ≥ 0 := h1
              have g2 : ¬ y ≥ 0 := h2
              have g3 : ¬ x < 0 := by omega
              have HNO := hide (fun V => c_NormalAngle (-(90000 - l)) V (by omega))
              generalize absI x = ax at *
              generalize absI y = ay at *
              go_wp2_with fail
              refine (HNO.out _).mono ?_
              rintro e w9 ⟨rfl, rfl⟩
              go_wp2_with fail
              go_ret2
              exact ⟨by rw [HR.out, HCC.out]; rfl, ⟨p, rfl⟩⟩
          · by_cases h2 : 0 ≤ y
            · have HR := hide (arc_2 h1 h2)
              rw [HM.out] at HR
              have g1 : ¬ x ≥ 0 := h1
              have g2 : y ≥ 0 := h2
              generalize absI x = ax at *
              generalize absI y = ay at *
              go_wp2_with fail
              go_ret2
              exact ⟨by rw [HR.out, HCC.out]; rfl, ⟨p, rfl⟩⟩
            · have HR := hide (arc_3 (show x < 0 by omega) h2)
              rw [HM.out] at HR
              have g1 : ¬ x ≥ 0 := h1
              have g2 : ¬ y ≥ 0 := h2
              have g3 : x < 0 := by omega
              generalize absI x = ax at *
              generalize absI y = ay at *
              go_wp2_with fail
              go_ret2
              exact ⟨by rw [HR.out, HCC.out]; rfl, ⟨p, rfl⟩⟩
        · have HM := hide (arc_mid0 hm)
          rw [HLO.out] at HM
          have hmd := arcMid_bd y x
          rw [HM.out] at hmd
          by_cases h1 : 0 ≤ x
          · by_cases h2 : 0 ≤ y
            · have HR := hide (arc_1 h1 h2)
              rw [HM.out] at HR
              have g1 : x ≥ 0 := h1
              have g2 : y ≥ 0 := h2
              generalize absI x = ax at *
              generalize absI y = ay at *
              go_wp2_with fail
              go_ret2
              exact ⟨by rw [HR.out, HCC.out]; rfl, ⟨p, rfl⟩⟩
            · have HR := hide (arc_4 h1 h2)
              rw [HM.out] at HR
              have g1 : x ≥ 0 := h1
              have g2 : ¬ y ≥ 0 := h2
              have g3 : ¬ x < 0 := by omega
              have HNO := hide (fun V => c_NormalAngle (-(l)) V (by omega))
              generalize absI x = ax at *
              generalize absI y = ay at *
              go_wp2_with fail
              refine (HNO.out _).mono ?_
              rintro e w9 ⟨rfl, rfl⟩
              go_wp2_with fail
              go_ret2
              exact ⟨by rw [HR.out, HCC.out]; rfl, ⟨p, rfl⟩⟩
          · by_cases h2 : 0 ≤ y
            · have HR := hide (arc_2 h1 h2)
              rw [HM.out] at HR
              have g1 : ¬ x ≥ 0 := h1
              have g2 : y ≥ 0 := h2
              generalize absI x = ax at *
              generalize absI y = ay at *
              go_wp2_with fail
              go_ret2
              exact ⟨by rw [HR.out, HCC.out]; rfl, ⟨p, rfl⟩⟩
            · have HR := hide (arc_3 (show x < 0 by omega) h2)
              rw [HM.out] at HR
              have g1 : ¬ x ≥ 0 := h1
              have g2 : ¬ y ≥ 0 := h2
              have g3 : x < 0 := by omega
              generalize absI x = ax at *
              generalize absI y = ay at *
              go_wp2_with fail
              go_ret2
              exact ⟨by rw [HR.out, HCC.out]; rfl, ⟨p, rfl⟩⟩

set_option maxHeartbeats 6400000 in
set_option maxRecDepth 100000 in
theorem c_ArcTangent (y x : Int) (w : World) (hy : smallI y) (hx : smallI x) (HTAB : ∀ W, IsX w W → sinTab W) : Calls Tryz.prog 131 #[.int .i64 y, .int .i64 x] w fun e w' => e = .returned (.tuple #[.int .i64 (arcZ y x), .int .i64 (arcC y x)]) ∧ IsX w w' := by
  have ix : inB x (-1000000000000) 1000000000000 = true := inB_true.2 (by unfold smallI at hx; omega)
  have iy : inB y (-1000000000000) 1000000000000 = true := inB_true.2 (by unfold smallI at hy; omega)
  have HWX := hide (fun V => cb (c_within x (-1000000000000) 1000000000000 V) ix)
  have HWY := hide (fun V => cb (c_within y (-1000000000000) 1000000000000 V) iy)
  have hax := absI_bd hx
  have hay := absI_bd hy
  have HAX := hide (fun V => c_absOf x V (by unfold smallI at hx; omega))
  have HAY := hide (fun V => c_absOf y V (by unfold smallI at hy; omega))
  obtain ⟨u, hu⟩ : ∃ u, u = min (absI x) (absI y) := ⟨_, rfl⟩
  obtain ⟨v, hv⟩ : ∃ v, v = max (absI x) (absI y) := ⟨_, rfl⟩
  have HUV := hide (show u = min (absI x) (absI y) ∧ v = max (absI x) (absI y) from ⟨hu, hv⟩)
  have hub : 0 ≤ u ∧ u ≤ 10000000 := by omega
  have hvb : 0 ≤ v ∧ v ≤ 10000000 := by omega
  have HT := hide HTAB
  unfold smallI at hx hy
  clear hu hv ix iy HTAB
  by_cases hx0 : x = 0
  · by_cases hy0 : y = 0
    · subst hx0 hy0
      have HZ := hide arcZ_zero
      go_enter Tryz.func131, Tryz.ntmps131
      go_wp2_with fail
      refine (HWX.out _).mono ?_
      rintro e w1 ⟨rfl, rfl⟩
      go_wp2_with fail
      refine (HWY.out _).mono ?_
      rintro e w1 ⟨rfl, rfl⟩
      go_wp2_with fail
      go_ret2
      exact ⟨by rw [HZ.out, show arcC 0 0 = 6 from rfl]; rfl, IsX.refl _⟩
    · have ex : (x == 0) = true := by simp [hx0]
      have ey : (y == 0) = false := by simp [hy0]
      have hle : 0 ≤ x := by omega
      exact c_ArcTan1 y x u v w HWX HWY HAX HAY HUV hub hvb hax hay (by omega) (by omega) HT (.inl ⟨ex, ey⟩)
  · have ex : (x == 0) = false := by simp [hx0]
    exact c_ArcTan1 y x u v w HWX HWY HAX HAY HUV hub hvb hax hay (by omega) (by omega) HT (.inr ex)

theorem c_l02Abs (a : Int) (w : World) (h : -1000000000000 ≤ a ∧ a ≤ 1000000000000) : Calls Tryz.prog 197 #[.int .i64 a] w fun e w' => e = .returned (.int .i64 (absI a)) ∧ w = w' := by
  by_cases ha : a < 0
  · have HR := hide (show absI a = -a by simp [absI, ha])
    go_enter Tryz.func197, Tryz.ntmps197
    go_wp2
    go_ret
    exact ⟨by rw [HR.out]; rfl, rfl⟩
  · have HR := hide (show absI a = a by simp [absI, ha])
    go_enter Tryz.func197, Tryz.ntmps197
    go_wp2
    go_ret
    exact ⟨by rw [HR.out]; rfl, rfl⟩
theorem c_domMin (a b : Int) (w : World) : Calls Tryz.prog 196 #[.int .i64 a, .int .i64 b] w fun e w' => e = .returned (.int .i64 (min a b)) ∧ w = w' := by
  by_cases h : a < b
  · have HR := hide (show min a b = a by omega)
    go_enter Tryz.func196, Tryz.ntmps196
    go_wp2
    go_ret
    exact ⟨by rw [HR.out]; rfl, rfl⟩
  · have HR := hide (show min a b = b by omega)
    go_enter Tryz.func196, Tryz.ntmps196
    go_wp2
    go_ret
    exact ⟨by rw [HR.out]; rfl, rfl⟩
theorem c_domMax (a b : Int) (w : World) : Calls Tryz.prog 89 #[.int .i64 a, .int .i64 b] w fun e w' => e = .returned (.int .i64 (max a b)) ∧ w = w' := by
  by_cases h : a > b
  · have HR := hide (show max a b = a by omega)
    go_enter Tryz.func89, Tryz.ntmps89
    go_wp2
    go_ret
    exact ⟨by rw [HR.out]; rfl, rfl⟩
  · have HR := hide (show max a b = b by omega)
    go_enter Tryz.func89, Tryz.ntmps89
    go_wp2
    go_ret
    exact ⟨by rw [HR.out]; rfl, rfl⟩

set_option maxHeartbeats 12800000 in
set_option maxRecDepth 100000 in
theorem c_l02Arc (y x : Int) (w : World) (hy : smallI y) (hx : smallI x) : Calls Tryz.prog 178 #[.int .i64 y, .int .i64 x] w fun e w' => e = .returned (.int .i64 (arcZ y x)) ∧ IsX w w' := by
  have hax := absI_bd hx
  have hay := absI_bd hy
  have HAX := hide (fun V => c_l02Abs x V (by unfold smallI at hx; omega))
  have HAY := hide (fun V => c_l02Abs y V (by unfold smallI at hy; omega))
  have HMI := hide (fun V => c_domMin (absI x) (absI y) V)
  have HMA := hide (fun V => c_domMax (absI x) (absI y) V)
  obtain ⟨u, hu⟩ : ∃ u, u = min (absI x) (absI y) := ⟨_, rfl⟩
  obtain ⟨v, hv⟩ : ∃ v, v = max (absI x) (absI y) := ⟨_, rfl⟩
  have HUV := hide (show u = min (absI x) (absI y) ∧ v = max (absI x) (absI y) from ⟨hu, hv⟩)
  have hub0 : 0 ≤ u := by omega
  have hub1 : u ≤ 10000000 := by omega
  have hvb0 : 0 ≤ v := by omega
  have hvb1 : v ≤ 10000000 := by omega
  rw [← hu] at HMI
  rw [← hv] at HMA
  unfold smallI at hx hy
  clear hu hv
  go_enter Tryz.func178, Tryz.ntmps178
  go_wp2_with fail
  refine (HAX.out _).mono ?_
  rintro e w1 ⟨rfl, rfl⟩
  go_wp2_with fail
  refine (HAY.out _).mono ?_
  rintro e w1 ⟨rfl, rfl⟩
  go_wp2_with fail
  refine (HMI.out _).mono ?_
  rintro e w1 ⟨rfl, rfl⟩
  go_wp2_with fail
  refine (HAX.out _).mono ?_
  rintro e w1 ⟨rfl, rfl⟩
  go_wp2_with fail
  refine (HAY.out _).mono ?_
  rintro e w1 ⟨rfl, rfl⟩
  go_wp2_with fail
  refine (HMA.out _).mono ?_
  rintro e w1 ⟨rfl, rfl⟩
  have HXS := hide (IsX.refl w)
  go_wp2_with fail
  go_loopw [7, 8] (fun lv hv wr => ∃ l h : Int, lv = .int .i64 l ∧ hv = .int .i64 h ∧ 0 ≤ l ∧ l ≤ h ∧ h ≤ 45000 ∧ Hid (ArcAt (arcQ u v) l h) ∧ IsX w wr) (fun lv hv _ => (intOf hv).toNat - (intOf lv).toNat)
  case atStart => exact ⟨0, 45000, rfl, rfl, by omega, by omega, by omega, hide (ArcAt.start _), HXS.out⟩
  case round =>
    clear HXS
    obtain ⟨l, h, rfl, rfl, hl0, hlh, hh, HAT, p, rfl⟩ := hrel
    by_cases hlt : l < h
    · obtain ⟨d, hd⟩ : ∃ d, d = (l + h) / 2 := ⟨_, rfl⟩
      have HD := hide hd
      have td : (l + h).tdiv 2 = d := by rw [Int.tdiv_eq_ediv_of_nonneg (by omega)]; omega
      have td2 : (l + h) / 2 = d := hd.symm
      have hd0 : 0 ≤ d := by omega
      have hd1 : l ≤ d := by omega
      have hd2 : d < h := by omega
      clear hd
      have HSN := hide (fun V (hV : IsX w V) => c_l02Sine d V (by omega))
      have HCS := hide (fun V (hV : IsX w V) => c_l02Cosine d V (by omega))
      have sb := sinM_bd d
      have cb' := cosM_bd d
      have m1 := mul_bd2 sb (show -10000000 ≤ v ∧ v ≤ 10000000 by omega)
      have m2 := mul_bd2 cb' (show -10000000 ≤ u ∧ u ≤ 10000000 by omega)
      have HQ : Hid (arcQ u v d = decide (cosM d * u ≤ sinM d * v)) := hide rfl
      have HYES := hide (fun hq => HAT.out.yes hlt (by rw [← HD.out]; exact hq))
      have HNO := hide (fun hq => HAT.out.no hlt (by rw [← HD.out]; exact hq))
      rw [← HD.out] at HYES HNO
      rw [show sinA (d % 360000) = sinM d from rfl] at HSN
      rw [show cosA (d % 360000) = cosM d from rfl] at HCS
      generalize sinM d = sv at *
      generalize cosM d = cv at *
      obtain ⟨q1, hq1⟩ : ∃ q1, q1 = sv * v := ⟨_, rfl⟩
      obtain ⟨q2, hq2⟩ : ∃ q2, q2 = cv * u := ⟨_, rfl⟩
      rw [← hq1, ← hq2] at HQ
      rw [← hq1] at m1
      rw [← hq2] at m2
      have e1 : sv * v = q1 := hq1.symm
      have e2 : cv * u = q2 := hq2.symm
      clear hq1 hq2 td2
      by_cases hle : q2 ≤ q1
      · have HAT2 := hide (HYES.out (by rw [HQ.out]; exact decide_eq_true hle))
        have hge : q1 ≥ q2 := hle
        clear HYES HNO HQ
        go_wp2_with fail
        refine (HSN.out _ ⟨p, rfl⟩).mono ?_
        rintro e w2 ⟨rfl, hx2⟩
        have HX2 := hide (IsX.trans ⟨p, rfl⟩ hx2)
        clear hx2
        go_wp2_with fail
        refine (HCS.out _ HX2.out).mono ?_
        rintro e w3 ⟨rfl, hx3⟩
        have HX3 := hide (HX2.out.trans hx3)
        clear hx3
        go_wp2_with fail
        go_roundw
        case rel => exact ⟨l, d, rfl, rfl, hl0, hd1, by omega, HAT2, HX3.out⟩
        case measure => simp [intOf]; omega
      · have HAT2 := hide (HNO.out (by rw [HQ.out]; exact decide_eq_false hle))
        have hge : ¬ q1 ≥ q2 := hle
        clear HYES HNO HQ
        go_wp2_with fail
        refine (HSN.out _ ⟨p, rfl⟩).mono ?_
        rintro e w2 ⟨rfl, hx2⟩
        have HX2 := hide (IsX.trans ⟨p, rfl⟩ hx2)
        clear hx2
        go_wp2_with fail
        refine (HCS.out _ HX2.out).mono ?_
        rintro e w3 ⟨rfl, hx3⟩
        have HX3 := hide (HX2.out.trans hx3)
        clear hx3
        go_wp2_with fail
        go_roundw
        case rel => exact ⟨d + 1, h, rfl, rfl, by omega, by omega, hh, HAT2, HX3.out⟩
        case measure => simp [intOf]; omega
    · obtain rfl : l = h := by omega
      have HLO := hide (show arcLow y x = l by unfold arcLow; rw [← HUV.out.1, ← HUV.out.2]; exact HAT.out.done hlt)
      have hlb := arcLow_bd y x
      rw [HLO.out] at hlb
      clear HAT hlt
      by_cases hm : absI x < absI y
      · have HM := hide (arc_mid1 hm)
        rw [HLO.out] at HM
        have hmd := arcMid_bd y x
        rw [HM.out] at hmd
        by_cases h1 : 0 ≤ x
        · by_cases h2 : 0 ≤ y
          · have HR := hide (arc_1 h1 h2)
            rw [HM.out] at HR
            have g1 : x ≥ 0 := h1
            have g2 : y ≥ 0 := h2
            have HAYp := hide (HAY.out (xt w p))
            have HAXp := hide (HAX.out (xt w p))
            generalize absI x = ax at *
            generalize absI y = ay at *
            go_wp2_with fail
            refine HAYp.out.mono ?_
            rintro e w8 ⟨rfl, rfl⟩
            go_wp2_with fail
            refine HAXp.out.mono ?_
            rintro e w8 ⟨rfl, rfl⟩
            go_wp2_with fail
            go_ret
            exact ⟨by rw [HR.out]; rfl, ⟨p, rfl⟩⟩
          · have HR := hide (arc_4 h1 h2)
            rw [HM.out] at HR
            have g1 : x ≥ 0 := h1
            have g2 : ¬ y ≥ 0 := h2
            have g3 : ¬ x < 0 := by omega
            have HNO := hide (fun V => c_l02Normal (-(90000 - l)) V (by omega))
            have HAYp := hide (HAY.out (xt w p))
            have HAXp := hide (HAX.out (xt w p))
            generalize absI x = ax at *
            generalize absI y = ay at *
            go_wp2_with fail
            refine HAYp.out.mono ?_
            rintro e w8 ⟨rfl, rfl⟩
            go_wp2_with fail
            refine HAXp.out.mono ?_
            rintro e w8 ⟨rfl, rfl⟩
            go_wp2_with fail
            refine (HNO.out _).mono ?_
            rintro e w9 ⟨rfl, rfl⟩
            go_wp2_with fail
            go_ret
            exact ⟨by rw [HR.out]; rfl, ⟨p, rfl⟩⟩
        · by_cases h2 : 0 ≤ y
          · have HR := hide (arc_2 h1 h2)
            rw [HM.out] at HR
            have g1 : ¬ x ≥ 0 := h1
            have g2 : y ≥ 0 := h2
            have HAYp := hide (HAY.out (xt w p))
            have HAXp := hide (HAX.out (xt w p))
            generalize absI x = ax at *
            generalize absI y = ay at *
            go_wp2_with fail
            refine HAYp.out.mono ?_
            rintro e w8 ⟨rfl, rfl⟩
            go_wp2_with fail
            refine HAXp.out.mono ?_
            rintro e w8 ⟨rfl, rfl⟩
            go_wp2_with fail
            go_ret
            exact ⟨by rw [HR.out]; rfl, ⟨p, rfl⟩⟩
          · have HR := hide (arc_3 (show x < 0 by omega) h2)
            rw [HM.out] at HR
            have g1 : ¬ x ≥ 0 := h1
            have g2 : ¬ y ≥ 0 := h2
            have g3 : x < 0 := by omega
            have HAYp := hide (HAY.out (xt w p))
            have HAXp := hide (HAX.out (xt w p))
            generalize absI x = ax at *
            generalize absI y = ay at *
            go_wp2_with fail
            refine HAYp.out.mono ?_
            rintro e w8 ⟨rfl, rfl⟩
            go_wp2_with fail
            refine HAXp.out.mono ?_
            rintro e w8 ⟨rfl, rfl⟩
            go_wp2_with fail
            go_ret
            exact ⟨by rw [HR.out]; rfl, ⟨p, rfl⟩⟩
      · have HM := hide (arc_mid0 hm)
        rw [HLO.out] at HM
        have hmd := arcMid_bd y x
        rw [HM.out] at hmd
        by_cases h1 : 0 ≤ x
        · by_cases h2 : 0 ≤ y
          · have HR := hide (arc_1 h1 h2)
            rw [HM.out] at HR
            have g1 : x ≥ 0 := h1
            have g2 : y ≥ 0 := h2
            have HAYp := hide (HAY.out (xt w p))
            have HAXp := hide (HAX.out (xt w p))
            generalize absI x = ax at *
            generalize absI y = ay at *
            go_wp2_with fail
            refine HAYp.out.mono ?_
            rintro e w8 ⟨rfl, rfl⟩
            go_wp2_with fail
            refine HAXp.out.mono ?_
            rintro e w8 ⟨rfl, rfl⟩
            go_wp2_with fail
            go_ret
            exact ⟨by rw [HR.out]; rfl, ⟨p, rfl⟩⟩
          · have HR := hide (arc_4 h1 h2)
            rw [HM.out] at HR
            have g1 : x ≥ 0 := h1
            have g2 : ¬ y ≥ 0 := h2
            have g3 : ¬ x < 0 := by omega
            have HNO := hide (fun V => c_l02Normal (-(l)) V (by omega))
            have HAYp := hide (HAY.out (xt w p))
            have HAXp := hide (HAX.out (xt w p))
            generalize absI x = ax at *
            generalize absI y = ay at *
            go_wp2_with fail
            refine HAYp.out.mono ?_
            rintro e w8 ⟨rfl, rfl⟩
            go_wp2_with fail
            refine HAXp.out.mono ?_
            rintro e w8 ⟨rfl, rfl⟩
            go_wp2_with fail
            refine (HNO.out _).mono ?_
            rintro e w9 ⟨rfl, rfl⟩
            go_wp2_with fail
            go_ret
            exact ⟨by rw [HR.out]; rfl, ⟨p, rfl⟩⟩
        · by_cases h2 : 0 ≤ y
          · have HR := hide (arc_2 h1 h2)
            rw [HM.out] at HR
            have g1 : ¬ x ≥ 0 := h1
            have g2 : y ≥ 0 := h2
            have HAYp := hide (HAY.out (xt w p))
            have HAXp := hide (HAX.out (xt w p))
            generalize absI x = ax at *
            generalize absI y = ay at *
            go_wp2_with fail
            refine HAYp.out.mono ?_
            rintro e w8 ⟨rfl, rfl⟩
            go_wp2_with fail
            refine HAXp.out.mono ?_
            rintro e w8 ⟨rfl, rfl⟩
            go_wp2_with fail
            go_ret
            exact ⟨by rw [HR.out]; rfl, ⟨p, rfl⟩⟩
          · have HR := hide (arc_3 (show x < 0 by omega) h2)
            rw [HM.out] at HR
            have g1 : ¬ x ≥ 0 := h1
            have g2 : ¬ y ≥ 0 := h2
            have g3 : x < 0 := by omega
            have HAYp := hide (HAY.out (xt w p))
            have HAXp := hide (HAX.out (xt w p))
            generalize absI x = ax at *
            generalize absI y = ay at *
            go_wp2_with fail
            refine HAYp.out.mono ?_
            rintro e w8 ⟨rfl, rfl⟩
            go_wp2_with fail
            refine HAXp.out.mono ?_
            rintro e w8 ⟨rfl, rfl⟩
            go_wp2_with fail
            go_ret
            exact ⟨by rw [HR.out]; rfl, ⟨p, rfl⟩⟩

end Go.Proofs.YtfcfgkkkepifhaaGreatDoor
