/- Sines and cosines: what the reference and the program compute. Conditions: angles from -10^9 to 10^9; the table of sines as the program's text lays it. -/
import Derived.Test.YtfcfgkkkepifhaaGreatDoorSine
namespace Go.Proofs.YtfcfgkkkepifhaaGreatDoor
set_option linter.unusedVariables false
open Go.RowKit

def cosA (n : Int) : Int := sinA ((n + 90000) % 360000)
theorem sin0_bd' {a : Int} : -1002000001 ≤ sin0 a ∧ sin0 a ≤ 1002000001 := by have := sin0_bd (a := a); omega
theorem sinA_bd (n : Int) : -1002000001 ≤ sinA n ∧ sinA n ≤ 1002000001 := by
  unfold sinA sin1
  split <;> split <;> (have h1 := sin0_bd' (a := n); have h2 := sin0_bd' (a := n - 180000); have h3 := sin0_bd' (a := 180000 - n); have h4 := sin0_bd' (a := 180000 - (n - 180000)); omega)
theorem cosA_bd (n : Int) : -1002000001 ≤ cosA n ∧ cosA n ≤ 1002000001 := sinA_bd _

theorem c_l02Sine (a : Int) (w : World) (ha : -1000000000 ≤ a ∧ a ≤ 1000000000) : Calls Tryz.prog 93 #[.int .i64 a] w fun e w' => e = .returned (.int .i64 (sinA (a % 360000))) ∧ IsX w w' := by
  by_cases h : a % 360000 < 180000
  · by_cases h2 : 90000 < a % 360000
    · exact c_l02Sine2 a _ w ha rfl h h2
    · exact c_l02Sine1 a _ w ha rfl h h2
  · by_cases h2 : 90000 < a % 360000 - 180000
    · exact c_l02Sine4 a _ w ha rfl (by omega) h2
    · exact c_l02Sine3 a _ w ha rfl (by omega) h2
set_option maxRecDepth 100000 in
theorem c_l02Cosine (a : Int) (w : World) (ha : -1000000000 ≤ a ∧ a ≤ 1000000000) : Calls Tryz.prog 94 #[.int .i64 a] w fun e w' => e = .returned (.int .i64 (cosA (a % 360000))) ∧ IsX w w' := by
  have HNO := hide (fun W => c_l02Normal a W ha)
  have hb : 0 ≤ a % 360000 ∧ a % 360000 < 360000 := by omega
  generalize a % 360000 = z at *
  have HSI := hide (fun W => c_l02Sine (z + 90000) W (by omega))
  have HC := hide (show cosA z = sinA ((z + 90000) % 360000) from rfl)
  clear ha
  go_enter Tryz.func94, Tryz.ntmps94
  go_wp2_with fail
  refine (HNO.out w).mono ?_
  rintro e w1 ⟨rfl, rfl⟩
  go_wp2_with fail
  refine (HSI.out _).mono ?_
  rintro e w2 ⟨rfl, hx⟩
  go_wp2_with fail
  go_ret
  exact ⟨by rw [HC.out]; rfl, hx⟩

set_option maxHeartbeats 1600000 in
set_option maxRecDepth 100000 in
theorem c_SineOf1 (a z : Int) (w : World) (ht : sinTab w) (hw0 : 0 < w.heap.size) (ha : -1000000000 ≤ a ∧ a ≤ 1000000000) (hz : a % 360000 = z) (h : z < 180000) (h2 : ¬ 90000 < z) : Calls Tryz.prog 66 #[.int .i64 a] w fun e w' => e = .returned (.int .i64 (sinA z)) ∧ IsX w w' := by
  have HNO := hide (fun W => c_NormalAngle a W ha)
  have hzb : 0 ≤ z ∧ z < 360000 := by omega
  rw [hz] at HNO
  clear hz ha
  have HS := hide (sinA_q1 h h2)
  have hn180 : (180000 ≤ z) = False := by simp; omega
  obtain ⟨k, hk⟩ := Int.eq_ofNat_of_zero_le (show 0 ≤ (z) / 1000 by omega)
  have hk90 : k ≤ 90 := by omega
  have hq : (z).tdiv 1000 = (k : Int) := by rw [Int.tdiv_eq_ediv_of_nonneg (by omega)]; exact hk
  have l0 := ht k (by omega)
  by_cases h90 : k = 90
  · have HV := hide (show sin0 (z) = TT 90 by rw [sin0_at hk, h90, if_pos (by omega)]; omega)
    subst h90
    have hq' : (z).tdiv 1000 = 90 := hq
    have hbb := TT_bd 90
    clear hk hq ht
    go_enter Tryz.func66, Tryz.ntmps66
    go_wp2_with fail
    refine (HNO.out w).mono ?_
    rintro e w1 ⟨rfl, rfl⟩
    go_wp2_with fail
    go_ret
    exact ⟨by rw [HS.out, HV.out]; rfl, IsX.refl _⟩
  · have HV := hide (sin0_at hk)
    have hk89 : k < 90 := by omega
    have l1 := ht (k + 1) (by omega)
    have hr : 0 ≤ (z) % 1000 ∧ (z) % 1000 < 1000 := by omega
    have HY := hide (show (z) = (k : Int) * 1000 + (z) % 1000 by omega)
    have hkne : ((k : Int) = 90) = False := by simp; omega
    have hkk : ((k : Int) + 1).toNat = k + 1 := by omega
    generalize hrr : (z) % 1000 = r at *
    have HB := hide (fun (W : World) => c_blend k ((k : Int) * 1000) (((k : Int) + 1) * 1000) (z) r W (by omega) (by omega) HY.out hr)
    clear hk ht hrr
    generalize TT k = y0 at *
    generalize TT (k + 1) = y1 at *
    generalize (y0 + if r = 0 then 0 else divR (slope k r) 1000) = vv at *
    go_enter Tryz.func66, Tryz.ntmps66
    go_wp2_with fail
    refine (HNO.out w).mono ?_
    rintro e w1 ⟨rfl, rfl⟩
    go_wp2_with fail
    refine wp_region_x (by kernel_rfl) (by kernel_rfl) ?_
    repeat (go_big_quiet_step ((go_at_call 98; exact call_x (HB.out _))))
    refine wpQuiet_nil ?_
    rintro _ ⟨q, rfl⟩
    go_wp2_with fail
    go_ret
    exact ⟨by rw [HS.out, HV.out]; rfl, (IsX.refl _).xt q⟩

set_option maxHeartbeats 1600000 in
set_option maxRecDepth 100000 in
theorem c_SineOf2 (a z : Int) (w : World) (ht : sinTab w) (hw0 : 0 < w.heap.size) (ha : -1000000000 ≤ a ∧ a ≤ 1000000000) (hz : a % 360000 = z) (h : z < 180000) (h2 : 90000 < z) : Calls Tryz.prog 66 #[.int .i64 a] w fun e w' => e = .returned (.int .i64 (sinA z)) ∧ IsX w w' := by
  have HNO := hide (fun W => c_NormalAngle a W ha)
  have hzb : 0 ≤ z ∧ z < 360000 := by omega
  rw [hz] at HNO
  clear hz ha
  have HS := hide (sinA_q2 h h2)
  have hn180 : (180000 ≤ z) = False := by simp; omega
  obtain ⟨k, hk⟩ := Int.eq_ofNat_of_zero_le (show 0 ≤ (180000 - z) / 1000 by omega)
  have hk90 : k ≤ 90 := by omega
  have hq : (180000 - z).tdiv 1000 = (k : Int) := by rw [Int.tdiv_eq_ediv_of_nonneg (by omega)]; exact hk
  have l0 := ht k (by omega)
  by_cases h90 : k = 90
  · have HV := hide (show sin0 (180000 - z) = TT 90 by rw [sin0_at hk, h90, if_pos (by omega)]; omega)
    subst h90
    have hq' : (180000 - z).tdiv 1000 = 90 := hq
    have hbb := TT_bd 90
    clear hk hq ht
    go_enter Tryz.func66, Tryz.ntmps66
    go_wp2_with fail
    refine (HNO.out w).mono ?_
    rintro e w1 ⟨rfl, rfl⟩
    go_wp2_with fail
    go_ret
    exact ⟨by rw [HS.out, HV.out]; rfl, IsX.refl _⟩
  · have HV := hide (sin0_at hk)
    have hk89 : k < 90 := by omega
    have l1 := ht (k + 1) (by omega)
    have hr : 0 ≤ (180000 - z) % 1000 ∧ (180000 - z) % 1000 < 1000 := by omega
    have HY := hide (show (180000 - z) = (k : Int) * 1000 + (180000 - z) % 1000 by omega)
    have hkne : ((k : Int) = 90) = False := by simp; omega
    have hkk : ((k : Int) + 1).toNat = k + 1 := by omega
    generalize hrr : (180000 - z) % 1000 = r at *
    have HB := hide (fun (W : World) => c_blend k ((k : Int) * 1000) (((k : Int) + 1) * 1000) (180000 - z) r W (by omega) (by omega) HY.out hr)
    clear hk ht hrr
    generalize TT k = y0 at *
    generalize TT (k + 1) = y1 at *
    generalize (y0 + if r = 0 then 0 else divR (slope k r) 1000) = vv at *
    go_enter Tryz.func66, Tryz.ntmps66
    go_wp2_with fail
    refine (HNO.out w).mono ?_
    rintro e w1 ⟨rfl, rfl⟩
    go_wp2_with fail
    refine wp_region_x (by kernel_rfl) (by kernel_rfl) ?_
    repeat (go_big_quiet_step ((go_at_call 98; exact call_x (HB.out _))))
    refine wpQuiet_nil ?_
    rintro _ ⟨q, rfl⟩
    go_wp2_with fail
    go_ret
    exact ⟨by rw [HS.out, HV.out]; rfl, (IsX.refl _).xt q⟩

theorem c_SineOf0 (a : Int) (w : World) (ht : sinTab w) (ha : -1000000000 ≤ a ∧ a ≤ 1000000000) (h : a % 360000 < 180000) : Calls Tryz.prog 66 #[.int .i64 a] w fun e w' => e = .returned (.int .i64 (sinA (a % 360000))) ∧ IsX w w' := by
  have hw0 : 0 < w.heap.size := World.block_lt_of_cell? w _ (ht 0 (by omega))
  by_cases h2 : 90000 < a % 360000
  · exact c_SineOf2 a _ w ht hw0 ha rfl h h2
  · exact c_SineOf1 a _ w ht hw0 ha rfl h h2
set_option maxHeartbeats 800000 in
set_option maxRecDepth 100000 in
theorem c_SineOf (a : Int) (w : World) (ht : sinTab w) (ha : -1000000000 ≤ a ∧ a ≤ 1000000000) : Calls Tryz.prog 66 #[.int .i64 a] w fun e w' => e = .returned (.int .i64 (sinA (a % 360000))) ∧ IsX w w' := by
  by_cases h : a % 360000 < 180000
  · exact c_SineOf0 a w ht ha h
  · have HNO := hide (fun W => c_NormalAngle a W ha)
    have hzb : 0 ≤ a % 360000 ∧ a % 360000 < 360000 := by omega
    generalize a % 360000 = z at *
    have hm : (z - 180000) % 360000 = z - 180000 := by omega
    have HR := hide (show sinA z = -(sinA (z - 180000)) by unfold sinA; rw [if_pos (by omega), if_neg (by omega)])
    have HB := hide (fun (W : World) (hW : sinTab W) => c_SineOf0 (z - 180000) W hW (by omega) (by omega))
    rw [hm] at HB
    have hbd := sinA_bd (z - 180000)
    have HT := hide ht
    clear ht ha hm
    generalize sinA (z - 180000) = v at *
    go_enter Tryz.func66, Tryz.ntmps66
    go_wp2_with fail
    refine (HNO.out w).mono ?_
    rintro e w1 ⟨rfl, rfl⟩
    go_wp2_with fail
    refine (HB.out _ HT.out).mono ?_
    rintro e w2 ⟨rfl, hx⟩
    go_wp2_with fail
    go_ret
    exact ⟨by rw [HR.out]; rfl, hx⟩
set_option maxRecDepth 100000 in
theorem c_CosineOf (a : Int) (w : World) (ht : sinTab w) (ha : -1000000000 ≤ a ∧ a ≤ 1000000000) : Calls Tryz.prog 67 #[.int .i64 a] w fun e w' => e = .returned (.int .i64 (cosA (a % 360000))) ∧ IsX w w' := by
  have HNO := hide (fun W => c_NormalAngle a W ha)
  have hb : 0 ≤ a % 360000 ∧ a % 360000 < 360000 := by omega
  generalize a % 360000 = z at *
  have HSI := hide (fun W hW => c_SineOf (z + 90000) W hW (by omega))
  have HC := hide (show cosA z = sinA ((z + 90000) % 360000) from rfl)
  have HT := hide ht
  clear ha ht
  go_enter Tryz.func67, Tryz.ntmps67
  go_wp2_with fail
  refine (HNO.out w).mono ?_
  rintro e w1 ⟨rfl, rfl⟩
  go_wp2_with fail
  refine (HSI.out _ HT.out).mono ?_
  rintro e w2 ⟨rfl, hx⟩
  go_wp2_with fail
  go_ret
  exact ⟨by rw [HC.out]; rfl, hx⟩

end Go.Proofs.YtfcfgkkkepifhaaGreatDoor
