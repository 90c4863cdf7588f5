/- Sines and nearest quotients: what the reference and the program compute. Conditions: numbers no greater than 10^14; the table of sines as the program's text lays it. -/
import Derived.Test.YtfcfgkkkepifhaaGreatDoorSeats
import Derived.Test.YtfcfgkkkepifhaaGreatDoorLInt64
import Derived.Lib.LaidTab
import Derived.IntWalk
namespace Go.Proofs.YtfcfgkkkepifhaaGreatDoor
set_option linter.unusedVariables false
open Go.RowKit

def sineT : List Int := [0, 17452, 34899, 52336, 69756, 87156, 104528, 121869, 139173, 156434, 173648, 190809, 207912, 224951, 241922, 258819, 275637, 292372, 309017, 325568, 342020, 358368, 374607, 390731, 406737, 422618, 438371, 453990, 469472, 484810, 500000, 515038, 529919, 544639, 559193, 573576, 587785, 601815, 615661, 629320, 642788, 656059, 669131, 681998, 694658, 707107, 719340, 731354, 743145, 754710, 766044, 777146, 788011, 798636, 809017, 819152, 829038, 838671, 848048, 857167, 866025, 874620, 882948, 891007, 898794, 906308, 913545, 920505, 927184, 933580, 939693, 945519, 951057, 956305, 961262, 965926, 970296, 974370, 978148, 981627, 984808, 987688, 990268, 992546, 994522, 996195, 997564, 998630, 999391, 999848, 1000000]
theorem sine_len : sineT.length = 91 := rfl
theorem sine_bd : ∀ k, 0 ≤ sineT.getD k 0 ∧ sineT.getD k 0 ≤ 1000000 := by
  intro k
  by_cases h : k < 91
  · have h2 : ∀ z ∈ sineT, 0 ≤ z ∧ z ≤ 1000000 := by decide
    rw [List.getD_eq_getElem?_getD, List.getElem?_eq_getElem (show k < sineT.length from h), Option.getD_some]
    exact h2 _ (List.getElem_mem _)
  · rw [List.getD_eq_getElem?_getD, List.getElem?_eq_none (show sineT.length ≤ k by rw [sine_len]; omega)]; simp
/-- the nearest quotient, halves away from 0 -/
def divR (a b : Int) : Int := if a < 0 then -((b - 2 * a) / (2 * b)) else (2 * a + b) / (2 * b)
theorem divR_bd {a b : Int} (hb : b = 1000 ∨ b = 1000000) (h : -1000000000000 ≤ a ∧ a ≤ 1000000000000) : -1000000001 ≤ divR a b ∧ divR a b ≤ 1000000001 := by
  unfold divR
  rcases hb with rfl | rfl <;> split <;> omega
theorem tdiv_neg' {a b : Int} (h : a < 0) (hb : 0 < b) : a.tdiv b = -((-a) / b) := by
  have : (-a).tdiv b = (-a) / b := Int.tdiv_eq_ediv_of_nonneg (by omega)
  rw [← this, Int.neg_tdiv, Int.neg_neg]
theorem tmod_neg' {a b : Int} (h : a < 0) (hb : 0 < b) : a.tmod b = -((-a) % b) := by
  have : (-a).tmod b = (-a) % b := Int.tmod_eq_emod_of_nonneg (by omega)
  rw [← this, Int.neg_tmod, Int.neg_neg]
def absI (a : Int) : Int := if a < 0 then -a else a

set_option maxHeartbeats 800000 in
theorem c_l01Div (a b : Int) (w : World) (hb : b = 1000 ∨ b = 1000000) (h : -100000000000000 ≤ a ∧ a ≤ 100000000000000) : Calls Tryz.prog 92 #[.int .i64 a, .int .i64 b] w fun e w' => e = .returned (.int .i64 (divR a b)) ∧ w = w' := by
  have hb0 : 0 < b := by omega
  by_cases ha : a < 0
  · have HR := hide (show divR a b = -((b - 2 * a) / (2 * b)) by simp [divR, ha])
    have hq : (b - 2 * a).tdiv (2 * b) = (b - 2 * a) / (2 * b) := Int.tdiv_eq_ediv_of_nonneg (by omega)
    have hqb : 0 ≤ (b - 2 * a) / (2 * b) ∧ (b - 2 * a) / (2 * b) ≤ 300000000000000 := by rcases hb with rfl | rfl <;> omega
    generalize (b - 2 * a) / (2 * b) = z at *
    go_enter Tryz.func92, Tryz.ntmps92
    go_wp2
    go_ret
    exact ⟨by rw [HR.out]; rfl, rfl⟩
  · have HR := hide (show divR a b = (2 * a + b) / (2 * b) by simp [divR, ha])
    go_enter Tryz.func92, Tryz.ntmps92
    go_wp2
    go_ret
    exact ⟨by rw [HR.out]; rfl, rfl⟩

theorem c_absOf (a : Int) (w : World) (h : -1000000000000 ≤ a ∧ a ≤ 1000000000000) : Calls Tryz.prog 96 #[.int .i64 a] w fun e w' => e = .returned (.int .i64 (absI a)) ∧ w = w' := by
  by_cases ha : a < 0
  · have HR := hide (show absI a = -a by simp [absI, ha])
    go_enter Tryz.func96, Tryz.ntmps96
    go_wp2
    go_ret
    exact ⟨by rw [HR.out]; rfl, rfl⟩
  · have HR := hide (show absI a = a by simp [absI, ha])
    go_enter Tryz.func96, Tryz.ntmps96
    go_wp2
    go_ret
    exact ⟨by rw [HR.out]; rfl, rfl⟩
theorem near_pos {a b : Int} (hb : b = 1000 ∨ b = 1000000) (ha : 0 ≤ a) : (a % b < b - a % b → divR a b = a / b) ∧ (¬ a % b < b - a % b → divR a b = a / b + 1) := by
  have hn : ¬ a < 0 := by omega
  simp only [divR, if_neg hn]
  rcases hb with rfl | rfl <;> constructor <;> intro h <;> omega
theorem near_neg {a b : Int} (hb : b = 1000 ∨ b = 1000000) (ha : a < 0) : ((-a) % b < b - (-a) % b → divR a b = -((-a) / b)) ∧ (¬ (-a) % b < b - (-a) % b → divR a b = -((-a) / b) - 1) := by
  simp only [divR, if_pos ha]
  rcases hb with rfl | rfl <;> constructor <;> intro h <;> omega

set_option maxHeartbeats 800000 in
theorem c_nearest_pos_lo_1000 (a q r : Int) (w : World) (ha : 0 ≤ a) (hab : -100000000000000 ≤ a ∧ a ≤ 100000000000000) (hd : a.tdiv 1000 = q) (hm : a.tmod 1000 = r) (hq0 : 0 ≤ q) (hq1 : q ≤ 100000000000) (hr0 : 0 ≤ r) (hr1 : r < 1000) (h : r < 1000 - r) :
    Calls Tryz.prog 65 #[.int .i64 a, .int .i64 1000] w fun e w' => e = .returned (.int .i64 (q)) ∧ IsX w w' := by
  have HA := hide (show absI (r) = r by unfold absI; split <;> omega)
  have HB := hide (show absI 1000 = 1000 by unfold absI; split <;> omega)
  have HC := hide (show ∀ p : Regrown, Calls Tryz.prog 96 #[.int .i64 (r)] (xt w p) fun e w' => e = .returned (.int .i64 r) ∧ xt w p = w' from fun p => by have h2 := c_absOf (r) (xt w p) (by omega); rw [HA.out] at h2; exact h2)
  have hda : decide (a < 0) = false := by simp; omega
  have hwq : IntKind.i64.wrap (q) = q := IntWalk.i64_in _ (by omega)
  go_enter Tryz.func65, Tryz.ntmps65
  go_wp2
  refine wp_region_x (by kernel_rfl) (by kernel_rfl) ?_
  repeat (go_big_quiet_step ((go_at_call 96; exact call_q (HC.out _))))
  refine wpQuiet_nil ?_
  rintro _ ⟨p, rfl⟩
  clear hwq hd hm
  go_wp2_with (go_at_call 96; refine (show Calls Tryz.prog 96 #[.int .i64 1000] _ (fun e w' => e = .returned (.int .i64 1000) ∧ _ = w') from by have h2 := c_absOf 1000 (xt w p) (by omega); rw [HB.out] at h2; exact h2).mono ?_; rintro e w' ⟨rfl, rfl⟩)
  go_ret
  exact ⟨rfl, ⟨p, rfl⟩⟩

set_option maxHeartbeats 800000 in
theorem c_nearest_pos_hi_1000 (a q r : Int) (w : World) (ha : 0 ≤ a) (hab : -100000000000000 ≤ a ∧ a ≤ 100000000000000) (hd : a.tdiv 1000 = q) (hm : a.tmod 1000 = r) (hq0 : 0 ≤ q) (hq1 : q ≤ 100000000000) (hr0 : 0 ≤ r) (hr1 : r < 1000) (h : ¬ r < 1000 - r) :
    Calls Tryz.prog 65 #[.int .i64 a, .int .i64 1000] w fun e w' => e = .returned (.int .i64 (q + 1)) ∧ IsX w w' := by
  have HA := hide (show absI (r) = r by unfold absI; split <;> omega)
  have HB := hide (show absI 1000 = 1000 by unfold absI; split <;> omega)
  have HC := hide (show ∀ p : Regrown, Calls Tryz.prog 96 #[.int .i64 (r)] (xt w p) fun e w' => e = .returned (.int .i64 r) ∧ xt w p = w' from fun p => by have h2 := c_absOf (r) (xt w p) (by omega); rw [HA.out] at h2; exact h2)
  have hda : decide (a < 0) = false := by simp; omega
  have hwq : IntKind.i64.wrap (q) = q := IntWalk.i64_in _ (by omega)
  go_enter Tryz.func65, Tryz.ntmps65
  go_wp2
  refine wp_region_x (by kernel_rfl) (by kernel_rfl) ?_
  repeat (go_big_quiet_step ((go_at_call 96; exact call_q (HC.out _))))
  refine wpQuiet_nil ?_
  rintro _ ⟨p, rfl⟩
  clear hwq hd hm
  go_wp2_with (go_at_call 96; refine (show Calls Tryz.prog 96 #[.int .i64 1000] _ (fun e w' => e = .returned (.int .i64 1000) ∧ _ = w') from by have h2 := c_absOf 1000 (xt w p) (by omega); rw [HB.out] at h2; exact h2).mono ?_; rintro e w' ⟨rfl, rfl⟩)
  go_ret
  exact ⟨rfl, ⟨p, rfl⟩⟩

set_option maxHeartbeats 800000 in
theorem c_nearest_neg_lo_1000 (a q r : Int) (w : World) (ha : a < 0) (hab : -100000000000000 ≤ a ∧ a ≤ 100000000000000) (hd : a.tdiv 1000 = -q) (hm : a.tmod 1000 = -r) (hq0 : 0 ≤ q) (hq1 : q ≤ 100000000000) (hr0 : 0 ≤ r) (hr1 : r < 1000) (h : r < 1000 - r) :
    Calls Tryz.prog 65 #[.int .i64 a, .int .i64 1000] w fun e w' => e = .returned (.int .i64 (-q)) ∧ IsX w w' := by
  have HA := hide (show absI (-r) = r by unfold absI; split <;> omega)
  have HB := hide (show absI 1000 = 1000 by unfold absI; split <;> omega)
  have HC := hide (show ∀ p : Regrown, Calls Tryz.prog 96 #[.int .i64 (-r)] (xt w p) fun e w' => e = .returned (.int .i64 r) ∧ xt w p = w' from fun p => by have h2 := c_absOf (-r) (xt w p) (by omega); rw [HA.out] at h2; exact h2)
  have hda : decide (a < 0) = true := by simp; omega
  have hwq : IntKind.i64.wrap (-q) = -q := IntWalk.i64_in _ (by omega)
  go_enter Tryz.func65, Tryz.ntmps65
  go_wp2
  refine wp_region_x (by kernel_rfl) (by kernel_rfl) ?_
  repeat (go_big_quiet_step ((go_at_call 96; exact call_q (HC.out _))))
  refine wpQuiet_nil ?_
  rintro _ ⟨p, rfl⟩
  clear hwq hd hm
  go_wp2_with (go_at_call 96; refine (show Calls Tryz.prog 96 #[.int .i64 1000] _ (fun e w' => e = .returned (.int .i64 1000) ∧ _ = w') from by have h2 := c_absOf 1000 (xt w p) (by omega); rw [HB.out] at h2; exact h2).mono ?_; rintro e w' ⟨rfl, rfl⟩)
  go_ret
  exact ⟨rfl, ⟨p, rfl⟩⟩

set_option maxHeartbeats 800000 in
theorem c_nearest_neg_hi_1000 (a q r : Int) (w : World) (ha : a < 0) (hab : -100000000000000 ≤ a ∧ a ≤ 100000000000000) (hd : a.tdiv 1000 = -q) (hm : a.tmod 1000 = -r) (hq0 : 0 ≤ q) (hq1 : q ≤ 100000000000) (hr0 : 0 ≤ r) (hr1 : r < 1000) (h : ¬ r < 1000 - r) :
    Calls Tryz.prog 65 #[.int .i64 a, .int .i64 1000] w fun e w' => e = .returned (.int .i64 (-q - 1)) ∧ IsX w w' := by
  have HA := hide (show absI (-r) = r by unfold absI; split <;> omega)
  have HB := hide (show absI 1000 = 1000 by unfold absI; split <;> omega)
  have HC := hide (show ∀ p : Regrown, Calls Tryz.prog 96 #[.int .i64 (-r)] (xt w p) fun e w' => e = .returned (.int .i64 r) ∧ xt w p = w' from fun p => by have h2 := c_absOf (-r) (xt w p) (by omega); rw [HA.out] at h2; exact h2)
  have hda : decide (a < 0) = true := by simp; omega
  have hwq : IntKind.i64.wrap (-q) = -q := IntWalk.i64_in _ (by omega)
  go_enter Tryz.func65, Tryz.ntmps65
  go_wp2
  refine wp_region_x (by kernel_rfl) (by kernel_rfl) ?_
  repeat (go_big_quiet_step ((go_at_call 96; exact call_q (HC.out _))))
  refine wpQuiet_nil ?_
  rintro _ ⟨p, rfl⟩
  clear hwq hd hm
  go_wp2_with (go_at_call 96; refine (show Calls Tryz.prog 96 #[.int .i64 1000] _ (fun e w' => e = .returned (.int .i64 1000) ∧ _ = w') from by have h2 := c_absOf 1000 (xt w p) (by omega); rw [HB.out] at h2; exact h2).mono ?_; rintro e w' ⟨rfl, rfl⟩)
  go_ret
  exact ⟨rfl, ⟨p, rfl⟩⟩

theorem c_nearest_1000 (a : Int) (w : World) (hab : -100000000000000 ≤ a ∧ a ≤ 100000000000000) :
    Calls Tryz.prog 65 #[.int .i64 a, .int .i64 1000] w fun e w' => e = .returned (.int .i64 (divR a 1000)) ∧ IsX w w' := by
  by_cases ha : 0 ≤ a
  · have h1 : a.tdiv 1000 = a / 1000 := Int.tdiv_eq_ediv_of_nonneg ha
    have h2 : a.tmod 1000 = a % 1000 := Int.tmod_eq_emod_of_nonneg ha
    have hn := near_pos (a := a) (b := 1000) (by omega) ha
    by_cases h : a % 1000 < 1000 - a % 1000
    · rw [hn.1 h]; exact c_nearest_pos_lo_1000 a _ _ w ha hab h1 h2 (by omega) (by omega) (by omega) (by omega) h
    · rw [hn.2 h]; exact c_nearest_pos_hi_1000 a _ _ w ha hab h1 h2 (by omega) (by omega) (by omega) (by omega) h
  · have ha' : a < 0 := by omega
    have h1 := tdiv_neg' ha' (show (0 : Int) < 1000 by omega)
    have h2 := tmod_neg' ha' (show (0 : Int) < 1000 by omega)
    have hn := near_neg (a := a) (b := 1000) (by omega) ha'
    by_cases h : (-a) % 1000 < 1000 - (-a) % 1000
    · rw [hn.1 h]; exact c_nearest_neg_lo_1000 a _ _ w ha' hab h1 h2 (by omega) (by omega) (by omega) (by omega) h
    · rw [hn.2 h]; exact c_nearest_neg_hi_1000 a _ _ w ha' hab h1 h2 (by omega) (by omega) (by omega) (by omega) h

set_option maxHeartbeats 800000 in
theorem c_nearest_pos_lo_1000000 (a q r : Int) (w : World) (ha : 0 ≤ a) (hab : -100000000000000 ≤ a ∧ a ≤ 100000000000000) (hd : a.tdiv 1000000 = q) (hm : a.tmod 1000000 = r) (hq0 : 0 ≤ q) (hq1 : q ≤ 100000000000) (hr0 : 0 ≤ r) (hr1 : r < 1000000) (h : r < 1000000 - r) :
    Calls Tryz.prog 65 #[.int .i64 a, .int .i64 1000000] w fun e w' => e = .returned (.int .i64 (q)) ∧ IsX w w' := by
  have HA := hide (show absI (r) = r by unfold absI; split <;> omega)
  have HB := hide (show absI 1000000 = 1000000 by unfold absI; split <;> omega)
  have HC := hide (show ∀ p : Regrown, Calls Tryz.prog 96 #[.int .i64 (r)] (xt w p) fun e w' => e = .returned (.int .i64 r) ∧ xt w p = w' from fun p => by have h2 := c_absOf (r) (xt w p) (by omega); rw [HA.out] at h2; exact h2)
  have hda : decide (a < 0) = false := by simp; omega
  have hwq : IntKind.i64.wrap (q) = q := IntWalk.i64_in _ (by omega)
  go_enter Tryz.func65, Tryz.ntmps65
  go_wp2
  refine wp_region_x (by kernel_rfl) (by kernel_rfl) ?_
  repeat (go_big_quiet_step ((go_at_call 96; exact call_q (HC.out _))))
  refine wpQuiet_nil ?_
  rintro _ ⟨p, rfl⟩
  clear hwq hd hm
  go_wp2_with (go_at_call 96; refine (show Calls Tryz.prog 96 #[.int .i64 1000000] _ (fun e w' => e = .returned (.int .i64 1000000) ∧ _ = w') from by have h2 := c_absOf 1000000 (xt w p) (by omega); rw [HB.out] at h2; exact h2).mono ?_; rintro e w' ⟨rfl, rfl⟩)
  go_ret
  exact ⟨rfl, ⟨p, rfl⟩⟩

set_option maxHeartbeats 800000 in
theorem c_nearest_pos_hi_1000000 (a q r : Int) (w : World) (ha : 0 ≤ a) (hab : -100000000000000 ≤ a ∧ a ≤ 100000000000000) (hd : a.tdiv 1000000 = q) (hm : a.tmod 1000000 = r) (hq0 : 0 ≤ q) (hq1 : q ≤ 100000000000) (hr0 : 0 ≤ r) (hr1 : r < 1000000) (h : ¬ r < 1000000 - r) :
    Calls Tryz.prog 65 #[.int .i64 a, .int .i64 1000000] w fun e w' => e = .returned (.int .i64 (q + 1)) ∧ IsX w w' := by
  have HA := hide (show absI (r) = r by unfold absI; split <;> omega)
  have HB := hide (show absI 1000000 = 1000000 by unfold absI; split <;> omega)
  have HC := hide (show ∀ p : Regrown, Calls Tryz.prog 96 #[.int .i64 (r)] (xt w p) fun e w' => e = .returned (.int .i64 r) ∧ xt w p = w' from fun p => by have h2 := c_absOf (r) (xt w p) (by omega); rw [HA.out] at h2; exact h2)
  have hda : decide (a < 0) = false := by simp; omega
  have hwq : IntKind.i64.wrap (q) = q := IntWalk.i64_in _ (by omega)
  go_enter Tryz.func65, Tryz.ntmps65
  go_wp2
  refine wp_region_x (by kernel_rfl) (by kernel_rfl) ?_
  repeat (go_big_quiet_step ((go_at_call 96; exact call_q (HC.out _))))
  refine wpQuiet_nil ?_
  rintro _ ⟨p, rfl⟩
  clear hwq hd hm
  go_wp2_with (go_at_call 96; refine (show Calls Tryz.prog 96 #[.int .i64 1000000] _ (fun e w' => e = .returned (.int .i64 1000000) ∧ _ = w') from by have h2 := c_absOf 1000000 (xt w p) (by omega); rw [HB.out] at h2; exact h2).mono ?_; rintro e w' ⟨rfl, rfl⟩)
  go_ret
  exact ⟨rfl, ⟨p, rfl⟩⟩

set_option maxHeartbeats 800000 in
theorem c_nearest_neg_lo_1000000 (a q r : Int) (w : World) (ha : a < 0) (hab : -100000000000000 ≤ a ∧ a ≤ 100000000000000) (hd : a.tdiv 1000000 = -q) (hm : a.tmod 1000000 = -r) (hq0 : 0 ≤ q) (hq1 : q ≤ 100000000000) (hr0 : 0 ≤ r) (hr1 : r < 1000000) (h : r < 1000000 - r) :
    Calls Tryz.prog 65 #[.int .i64 a, .int .i64 1000000] w fun e w' => e = .returned (.int .i64 (-q)) ∧ IsX w w' := by
  have HA := hide (show absI (-r) = r by unfold absI; split <;> omega)
  have HB := hide (show absI 1000000 = 1000000 by unfold absI; split <;> omega)
  have HC := hide (show ∀ p : Regrown, Calls Tryz.prog 96 #[.int .i64 (-r)] (xt w p) fun e w' => e = .returned (.int .i64 r) ∧ xt w p = w' from fun p => by have h2 := c_absOf (-r) (xt w p) (by omega); rw [HA.out] at h2; exact h2)
  have hda : decide (a < 0) = true := by simp; omega
  have hwq : IntKind.i64.wrap (-q) = -q := IntWalk.i64_in _ (by omega)
  go_enter Tryz.func65, Tryz.ntmps65
  go_wp2
  refine wp_region_x (by kernel_rfl) (by kernel_rfl) ?_
  repeat (go_big_quiet_step ((go_at_call 96; exact call_q (HC.out _))))
  refine wpQuiet_nil ?_
  rintro _ ⟨p, rfl⟩
  clear hwq hd hm
  go_wp2_with (go_at_call 96; refine (show Calls Tryz.prog 96 #[.int .i64 1000000] _ (fun e w' => e = .returned (.int .i64 1000000) ∧ _ = w') from by have h2 := c_absOf 1000000 (xt w p) (by omega); rw [HB.out] at h2; exact h2).mono ?_; rintro e w' ⟨rfl, rfl⟩)
  go_ret
  exact ⟨rfl, ⟨p, rfl⟩⟩

set_option maxHeartbeats 800000 in
theorem c_nearest_neg_hi_1000000 (a q r : Int) (w : World) (ha : a < 0) (hab : -100000000000000 ≤ a ∧ a ≤ 100000000000000) (hd : a.tdiv 1000000 = -q) (hm : a.tmod 1000000 = -r) (hq0 : 0 ≤ q) (hq1 : q ≤ 100000000000) (hr0 : 0 ≤ r) (hr1 : r < 1000000) (h : ¬ r < 1000000 - r) :
    Calls Tryz.prog 65 #[.int .i64 a, .int .i64 1000000] w fun e w' => e = .returned (.int .i64 (-q - 1)) ∧ IsX w w' := by
  have HA := hide (show absI (-r) = r by unfold absI; split <;> omega)
  have HB := hide (show absI 1000000 = 1000000 by unfold absI; split <;> omega)
  have HC := hide (show ∀ p : Regrown, Calls Tryz.prog 96 #[.int .i64 (-r)] (xt w p) fun e w' => e = .returned (.int .i64 r) ∧ xt w p = w' from fun p => by have h2 := c_absOf (-r) (xt w p) (by omega); rw [HA.out] at h2; exact h2)
  have hda : decide (a < 0) = true := by simp; omega
  have hwq : IntKind.i64.wrap (-q) = -q := IntWalk.i64_in _ (by omega)
  go_enter Tryz.func65, Tryz.ntmps65
  go_wp2
  refine wp_region_x (by kernel_rfl) (by kernel_rfl) ?_
  repeat (go_big_quiet_step ((go_at_call 96; exact call_q (HC.out _))))
  refine wpQuiet_nil ?_
  rintro _ ⟨p, rfl⟩
  clear hwq hd hm
  go_wp2_with (go_at_call 96; refine (show Calls Tryz.prog 96 #[.int .i64 1000000] _ (fun e w' => e = .returned (.int .i64 1000000) ∧ _ = w') from by have h2 := c_absOf 1000000 (xt w p) (by omega); rw [HB.out] at h2; exact h2).mono ?_; rintro e w' ⟨rfl, rfl⟩)
  go_ret
  exact ⟨rfl, ⟨p, rfl⟩⟩

theorem c_nearest_1000000 (a : Int) (w : World) (hab : -100000000000000 ≤ a ∧ a ≤ 100000000000000) :
    Calls Tryz.prog 65 #[.int .i64 a, .int .i64 1000000] w fun e w' => e = .returned (.int .i64 (divR a 1000000)) ∧ IsX w w' := by
  by_cases ha : 0 ≤ a
  · have h1 : a.tdiv 1000000 = a / 1000000 := Int.tdiv_eq_ediv_of_nonneg ha
    have h2 : a.tmod 1000000 = a % 1000000 := Int.tmod_eq_emod_of_nonneg ha
    have hn := near_pos (a := a) (b := 1000000) (by omega) ha
    by_cases h : a % 1000000 < 1000000 - a % 1000000
    · rw [hn.1 h]; exact c_nearest_pos_lo_1000000 a _ _ w ha hab h1 h2 (by omega) (by omega) (by omega) (by omega) h
    · rw [hn.2 h]; exact c_nearest_pos_hi_1000000 a _ _ w ha hab h1 h2 (by omega) (by omega) (by omega) (by omega) h
  · have ha' : a < 0 := by omega
    have h1 := tdiv_neg' ha' (show (0 : Int) < 1000000 by omega)
    have h2 := tmod_neg' ha' (show (0 : Int) < 1000000 by omega)
    have hn := near_neg (a := a) (b := 1000000) (by omega) ha'
    by_cases h : (-a) % 1000000 < 1000000 - (-a) % 1000000
    · rw [hn.1 h]; exact c_nearest_neg_lo_1000000 a _ _ w ha' hab h1 h2 (by omega) (by omega) (by omega) (by omega) h
    · rw [hn.2 h]; exact c_nearest_neg_hi_1000000 a _ _ w ha' hab h1 h2 (by omega) (by omega) (by omega) (by omega) h

end Go.Proofs.YtfcfgkkkepifhaaGreatDoor
