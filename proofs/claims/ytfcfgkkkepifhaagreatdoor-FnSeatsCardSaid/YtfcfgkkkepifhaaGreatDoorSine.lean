/- Sines: what the reference and the program compute. Conditions: angles from -10^9 to 10^9; the table of sines as the program's text lays it. -/
import Derived.Test.YtfcfgkkkepifhaaGreatDoorPlace
namespace Go.Proofs.YtfcfgkkkepifhaaGreatDoor
set_option linter.unusedVariables false
open Go.RowKit

def TT (k : Nat) : Int := sineT.getD k 0
theorem TT_bd (k : Nat) : 0 ≤ TT k ∧ TT k ≤ 1000000 := sine_bd k
theorem mul_bd {d r D Rr : Int} (h0 : -D ≤ d) (h1 : d ≤ D) (r0 : 0 ≤ r) (r1 : r ≤ Rr) (hD : 0 ≤ D) : -(D * Rr) ≤ d * r ∧ d * r ≤ D * Rr := by
  have a1 : d * r ≤ D * r := Int.mul_le_mul_of_nonneg_right h1 r0
  have a2 : D * r ≤ D * Rr := Int.mul_le_mul_of_nonneg_left r1 hD
  have a3 : -D * r ≤ d * r := Int.mul_le_mul_of_nonneg_right h0 r0
  rw [Int.neg_mul] at a3
  omega
def slope (k : Nat) (r : Int) : Int := (TT (k + 1) - TT k) * r
theorem slope_bd (k : Nat) {r : Int} (h0 : 0 ≤ r) (h1 : r ≤ 1000) : -1000000000 ≤ slope k r ∧ slope k r ≤ 1000000000 := by
  have b0 := TT_bd k
  have b1 := TT_bd (k + 1)
  have := mul_bd (d := TT (k + 1) - TT k) (D := 1000000) (by omega) (by omega) h0 h1 (by omega)
  unfold slope; omega
def sin0 (a : Int) : Int := TT (a / 1000).toNat + (if a % 1000 = 0 then 0 else divR (slope (a / 1000).toNat (a % 1000)) 1000)
def sin1 (n : Int) : Int := if 90000 < n then sin0 (180000 - n) else sin0 n
def sinA (n : Int) : Int := if 180000 ≤ n then -(sin1 (n - 180000)) else sin1 n
theorem sin0_at {a : Int} {k : Nat} (hk : a / 1000 = (k : Int)) : sin0 a = TT k + (if a % 1000 = 0 then 0 else divR (slope k (a % 1000)) 1000) := by
  unfold sin0; rw [hk]; rfl
theorem sin0_bd {a : Int} : -1000000001 ≤ sin0 a - 0 ∧ sin0 a ≤ 1001000001 := by
  unfold sin0
  have b0 := TT_bd (a / 1000).toNat
  have b1 := slope_bd (a / 1000).toNat (r := a % 1000) (by omega) (by omega)
  have b2 := divR_bd (a := slope (a / 1000).toNat (a % 1000)) (b := 1000) (by omega) (by omega)
  split <;> omega
def sinTab (w : World) : Prop := ∀ k, k < 91 → w.cell? ⟨0, k, none⟩ = some (.int .i64 (TT k))
theorem sinTab.x {w w' : World} (h : sinTab w) (hx : IsX w w') : sinTab w' := fun k hk => by
  have h0 := h k hk
  have hb := World.block_lt_of_cell? w _ h0
  exact keep hx hb h0

set_option maxRecDepth 100000 in
theorem c_l02Normal (a : Int) (w : World) (h : -1000000000 ≤ a ∧ a ≤ 1000000000) : Calls Tryz.prog 91 #[.int .i64 a] w fun e w' => e = .returned (.int .i64 (a % 360000)) ∧ w = w' := by
  obtain ⟨h0, h1⟩ := h
  obtain ⟨t, ht⟩ : ∃ t, t = a.tmod 360000 := ⟨_, rfl⟩
  have hr1 : a.tmod 360000 = t := ht.symm
  have htb : -360000 < t ∧ t < 360000 ∧ (t + 360000) % 360000 = a % 360000 := by
    rcases Int.lt_or_le a 0 with hn | hn
    · rw [tmod_neg' hn (by omega)] at ht; omega
    · rw [Int.tmod_eq_emod_of_nonneg hn] at ht; omega
  clear ht
  have hr2 : (t + 360000).tmod 360000 = a % 360000 := by rw [Int.tmod_eq_emod_of_nonneg (by omega)]; exact htb.2.2
  have hb : 0 ≤ a % 360000 ∧ a % 360000 < 360000 := by omega
  obtain ⟨tb0, tb1, _⟩ := htb
  generalize a % 360000 = z at *
  go_enter Tryz.func91, Tryz.ntmps91
  go_wp2
  go_ret
  exact ⟨rfl, rfl⟩

set_option maxRecDepth 100000 in
theorem c_NormalAngle (a : Int) (w : World) (h : -1000000000 ≤ a ∧ a ≤ 1000000000) : Calls Tryz.prog 97 #[.int .i64 a] w fun e w' => e = .returned (.int .i64 (a % 360000)) ∧ w = w' := by
  obtain ⟨h0, h1⟩ := h
  obtain ⟨t, ht⟩ : ∃ t, t = a.tmod 360000 := ⟨_, rfl⟩
  have hr1 : a.tmod 360000 = t := ht.symm
  have htb : -360000 < t ∧ t < 360000 ∧ (t < 0 → t + 360000 = a % 360000) ∧ (¬ t < 0 → t = a % 360000) := by
    rcases Int.lt_or_le a 0 with hn | hn
    · rw [tmod_neg' hn (by omega)] at ht; omega
    · rw [Int.tmod_eq_emod_of_nonneg hn] at ht; omega
  clear ht
  obtain ⟨tb0, tb1, tb2, tb3⟩ := htb
  generalize a % 360000 = z at *
  by_cases hneg : t < 0
  · have HZ := hide (tb2 hneg)
    clear tb2 tb3
    go_enter Tryz.func97, Tryz.ntmps97
    go_wp2
    go_ret
    exact ⟨by rw [← HZ.out]; rfl, rfl⟩
  · have HZ := hide (tb3 hneg)
    clear tb2 tb3
    go_enter Tryz.func97, Tryz.ntmps97
    go_wp2
    go_ret
    exact ⟨by rw [← HZ.out]; rfl, rfl⟩

set_option maxHeartbeats 800000 in
set_option maxRecDepth 100000 in
theorem c_blend (k : Nat) (x0 x1 x r : Int) (w : World) (hx0 : 0 ≤ x0 ∧ x0 ≤ 1000000) (hx1 : x1 = x0 + 1000) (hx : x = x0 + r) (hr : 0 ≤ r ∧ r < 1000) :
    Calls Tryz.prog 98 #[.int .i64 x0, .int .i64 (TT k), .int .i64 x1, .int .i64 (TT (k + 1)), .int .i64 x] w fun e w' => e = .returned (.int .i64 (TT k + (if r = 0 then 0 else divR (slope k r) 1000))) ∧ IsX w w' := by
  have b0 := TT_bd k
  have b1 := TT_bd (k + 1)
  have b2 := slope_bd k hr.1 (show r ≤ 1000 by omega)
  have b3 := divR_bd (a := slope k r) (b := 1000) (by omega) (by omega)
  have HSL := hide (show slope k r = (TT (k + 1) - TT k) * r from rfl)
  have HN := hide (fun W => c_nearest_1000 (slope k r) W (by omega))
  by_cases h0 : r = 0
  · have HR := hide (show TT k + (if r = 0 then 0 else divR (slope k r) 1000) = TT k by rw [if_pos h0]; omega)
    subst h0
    obtain rfl : x = x0 := by omega
    subst hx1
    clear b2 b3 hx
    go_enter Tryz.func98, Tryz.ntmps98
    go_wp2
    go_ret
    exact ⟨by first | rfl | (rw [HR.out]; rfl), IsX.refl _⟩
  · have HR := hide (show TT k + (if r = 0 then 0 else divR (slope k r) 1000) = TT k + divR (slope k r) 1000 by rw [if_neg h0])
    subst hx hx1
    have e1 : x0 + r - x0 = r := by omega
    have e2 : x0 + 1000 - x0 = 1000 := by omega
    generalize TT k = y0 at *
    generalize TT (k + 1) = y1 at *
    have e3 : (y1 - y0) * (x0 + r - x0) = slope k r := by rw [e1]; exact HSL.out.symm
    generalize slope k r = P at *
    have b4 : -1000000000 ≤ (y1 - y0) * (x0 + r - x0) ∧ (y1 - y0) * (x0 + r - x0) ≤ 1000000000 := by rw [e3]; exact b2
    have E1 := hide e3
    have E2 := hide e2
    clear e1 e2 e3
    go_enter Tryz.func98, Tryz.ntmps98
    go_wp2_with fail
    rw [E1.out, E2.out]
    refine (HN.out _).mono ?_
    rintro e w' ⟨rfl, hxx⟩
    go_wp2_with fail
    go_ret
    exact ⟨by first | rfl | (rw [HR.out]; rfl), hxx⟩

theorem sinA_q1 {z : Int} (h : z < 180000) (h2 : ¬ 90000 < z) : sinA z = sin0 z := by unfold sinA sin1; rw [if_neg (by omega), if_neg h2]
theorem sinA_q2 {z : Int} (h : z < 180000) (h2 : 90000 < z) : sinA z = sin0 (180000 - z) := by unfold sinA sin1; rw [if_neg (by omega), if_pos h2]
theorem sinA_q3 {z : Int} (h : 180000 ≤ z) (h2 : ¬ 90000 < z - 180000) : sinA z = -(sin0 (z - 180000)) := by unfold sinA sin1; rw [if_pos h, if_neg h2]
theorem sinA_q4 {z : Int} (h : 180000 ≤ z) (h2 : 90000 < z - 180000) : sinA z = -(sin0 (180000 - (z - 180000))) := by unfold sinA sin1; rw [if_pos h, if_pos h2]
theorem sin0_0 {y : Int} {k : Nat} (hk : y / 1000 = (k : Int)) (h0 : y % 1000 = 0) : sin0 y = TT k := by rw [sin0_at hk, if_pos h0]; omega
theorem sin0_r {y : Int} {k : Nat} (hk : y / 1000 = (k : Int)) (h0 : ¬ y % 1000 = 0) : sin0 y = TT k + divR (slope k (y % 1000)) 1000 := by rw [sin0_at hk, if_neg h0]
def sineA : Array Value := #[.int .i64 0, .int .i64 17452, .int .i64 34899, .int .i64 52336, .int .i64 69756, .int .i64 87156, .int .i64 104528, .int .i64 121869, .int .i64 139173, .int .i64 156434, .int .i64 173648, .int .i64 190809, .int .i64 207912, .int .i64 224951, .int .i64 241922, .int .i64 258819, .int .i64 275637, .int .i64 292372, .int .i64 309017, .int .i64 325568, .int .i64 342020, .int .i64 358368, .int .i64 374607, .int .i64 390731, .int .i64 406737, .int .i64 422618, .int .i64 438371, .int .i64 453990, .int .i64 469472, .int .i64 484810, .int .i64 500000, .int .i64 515038, .int .i64 529919, .int .i64 544639, .int .i64 559193, .int .i64 573576, .int .i64 587785, .int .i64 601815, .int .i64 615661, .int .i64 629320, .int .i64 642788, .int .i64 656059, .int .i64 669131, .int .i64 681998, .int .i64 694658, .int .i64 707107, .int .i64 719340, .int .i64 731354, .int .i64 743145, .int .i64 754710, .int .i64 766044, .int .i64 777146, .int .i64 788011, .int .i64 798636, .int .i64 809017, .int .i64 819152, .int .i64 829038, .int .i64 838671, .int .i64 848048, .int .i64 857167, .int .i64 866025, .int .i64 874620, .int .i64 882948, .int .i64 891007, .int .i64 898794, .int .i64 906308, .int .i64 913545, .int .i64 920505, .int .i64 927184, .int .i64 933580, .int .i64 939693, .int .i64 945519, .int .i64 951057, .int .i64 956305, .int .i64 961262, .int .i64 965926, .int .i64 970296, .int .i64 974370, .int .i64 978148, .int .i64 981627, .int .i64 984808, .int .i64 987688, .int .i64 990268, .int .i64 992546, .int .i64 994522, .int .i64 996195, .int .i64 997564, .int .i64 998630, .int .i64 999391, .int .i64 999848, .int .i64 1000000]
theorem sineA_is : sineA = (sineT.map fun z => Value.int .i64 z).toArray := by kernel_rfl
theorem tt_cells : ∀ k, k < 91 → sineA[k]? = some (.int .i64 (TT k)) := fun k hk => by
  rw [sineA_is, List.getElem?_toArray, List.getElem?_map, TT, List.getD_eq_getElem?_getD, List.getElem?_eq_getElem (show k < sineT.length from hk)]; rfl
def SinCells (w : World) (g : Nat) : Prop := g < w.heap.size ∧ ∀ k, k < 91 → w.cell? ⟨g, k, none⟩ = some (.int .i64 (TT k))
theorem SinCells.x {w w' : World} {g : Nat} (h : SinCells w g) (hx : IsX w w') : SinCells w' g := ⟨Nat.lt_of_lt_of_le h.1 hx.size, fun k hk => keep hx h.1 (h.2 k hk)⟩
theorem SinCells.new (w : World) (t : TypeId) : SinCells (w.alloc (.cells sineA t)) w.heap.size := ⟨by simp, fun k hk => ((Blk.new w t sineA).cell k).trans (tt_cells k hk)⟩

theorem wpList_val {P : Program} {ops rest} {o : Oper} {Q : Exit → Act → World → Prop} {a : Act} {w w' : World} {v : Value} (hg : o.guard = none) (he : (execOp a.eval o).run P w = .ok (.value v) w')
    (h : wpList P ops Q rest (a.put o.dst v) w') : wpList P ops Q (o :: rest) a w := by
  refine wpList_plain hg fun K hK => ?_
  unfold Oper.wp
  rw [he]
  exact hK _ _ h
set_option maxRecDepth 100000 in
theorem c_l02Table (w : World) : Calls Tryz.prog 129 #[] w fun e w' => ∃ g, e = .returned (.slice (some ⟨g, 0, none⟩) 91 91) ∧ SinCells w' g ∧ IsX w w' := by
  go_enter Tryz.func129, Tryz.ntmps129
  iterate 11 go_step
  refine wpList_val (w' := w.alloc (.cells sineA 2)) (v := .slice (some ⟨w.heap.size, 0, none⟩) 91 91) rfl (by kernel_rfl) ?_
  have hS := SinCells.new w 2
  have hX := (IsX.refl w).alloc (.cells sineA 2)
  generalize sineA = A at *
  go_wp2
  go_ret
  exact ⟨_, rfl, hS, hX⟩

set_option maxHeartbeats 1600000 in
theorem c_l02Sine1 (a z : Int) (w : World) (ha : -1000000000 ≤ a ∧ a ≤ 1000000000) (hz : a % 360000 = z) (h : z < 180000) (h2 : ¬ 90000 < z) : Calls Tryz.prog 93 #[.int .i64 a] w fun e w' => e = .returned (.int .i64 (sinA z)) ∧ IsX w w' := by
  have HNO := hide (fun W => c_l02Normal a W ha)
  have hzb : 0 ≤ z ∧ z < 360000 := by omega
  rw [hz] at HNO
  clear hz ha
  have HS := hide (sinA_q1 h h2)
  obtain ⟨k, hk⟩ := Int.eq_ofNat_of_zero_le (show 0 ≤ (z) / 1000 by omega)
  have hk90 : k ≤ 90 := by omega
  have hq : (z).tdiv 1000 = (k : Int) := by rw [Int.tdiv_eq_ediv_of_nonneg (by omega)]; exact hk
  have hm : (z).tmod 1000 = (z) % 1000 := Int.tmod_eq_emod_of_nonneg (by omega)
  have b0 := TT_bd k
  by_cases h0 : (z) % 1000 = 0
  · have HV := hide (sin0_0 hk h0)
    rw [h0] at hm
    clear hk h0
    go_enter Tryz.func93, Tryz.ntmps93
    go_wp2_with fail
    refine (HNO.out w).mono ?_
    rintro e w1 ⟨rfl, rfl⟩
    go_wp2_with fail
    refine (c_l02Table _).mono ?_
    rintro e w2 ⟨g, rfl, HG, hx⟩
    have hg := HG.1
    have l0 := HG.2 k (by omega)
    clear HG
    generalize TT k = y0 at *
    go_wp2_with fail
    go_ret
    exact ⟨by rw [HS.out, HV.out]; go_num, hx⟩
  · have HV := hide (sin0_r hk h0)
    have hk89 : k < 90 := by omega
    have hrr : 0 < (z) % 1000 ∧ (z) % 1000 < 1000 := by omega
    clear hk h0
    generalize (z) % 1000 = r at *
    have b1 := TT_bd (k + 1)
    have b2 := slope_bd k (r := r) (by omega) (by omega)
    have b3 := divR_bd (a := slope k r) (b := 1000) (by omega) (by omega)
    have b4 : -1000000000 ≤ (TT (k + 1) - TT k) * r ∧ (TT (k + 1) - TT k) * r ≤ 1000000000 := b2
    have HD := hide (fun (W : World) => c_l01Div (slope k r) 1000 W (by omega) (by omega))
    unfold slope at HD HV b3 b2
    go_enter Tryz.func93, Tryz.ntmps93
    go_wp2_with fail
    refine (HNO.out w).mono ?_
    rintro e w1 ⟨rfl, rfl⟩
    go_wp2_with fail
    refine (c_l02Table _).mono ?_
    rintro e w2 ⟨g, rfl, HG, hx⟩
    have hg := HG.1
    have l0 := HG.2 k (by omega)
    have l1 := HG.2 (k + 1) (by omega)
    clear HG
    generalize TT k = y0 at *
    generalize TT (k + 1) = y1 at *
    have hkk : ((k : Int) + 1).toNat = k + 1 := by omega
    go_wp2_with fail
    refine wp_region_x (by kernel_rfl) (by kernel_rfl) ?_
    repeat (go_big_quiet_step ((go_at_call 92; exact call_q (HD.out _))))
    refine wpQuiet_nil ?_
    rintro _ ⟨q, rfl⟩
    go_wp2_with fail
    go_ret
    exact ⟨by rw [HS.out, HV.out]; go_num, hx.xt q⟩

set_option maxHeartbeats 1600000 in
theorem c_l02Sine2 (a z : Int) (w : World) (ha : -1000000000 ≤ a ∧ a ≤ 1000000000) (hz : a % 360000 = z) (h : z < 180000) (h2 : 90000 < z) : Calls Tryz.prog 93 #[.int .i64 a] w fun e w' => e = .returned (.int .i64 (sinA z)) ∧ IsX w w' := by
  have HNO := hide (fun W => c_l02Normal a W ha)
  have hzb : 0 ≤ z ∧ z < 360000 := by omega
  rw [hz] at HNO
  clear hz ha
  have HS := hide (sinA_q2 h h2)
  obtain ⟨k, hk⟩ := Int.eq_ofNat_of_zero_le (show 0 ≤ (180000 - z) / 1000 by omega)
  have hk90 : k ≤ 90 := by omega
  have hq : (180000 - z).tdiv 1000 = (k : Int) := by rw [Int.tdiv_eq_ediv_of_nonneg (by omega)]; exact hk
  have hm : (180000 - z).tmod 1000 = (180000 - z) % 1000 := Int.tmod_eq_emod_of_nonneg (by omega)
  have b0 := TT_bd k
  by_cases h0 : (180000 - z) % 1000 = 0
  · have HV := hide (sin0_0 hk h0)
    rw [h0] at hm
    clear hk h0
    go_enter Tryz.func93, Tryz.ntmps93
    go_wp2_with fail
    refine (HNO.out w).mono ?_
    rintro e w1 ⟨rfl, rfl⟩
    go_wp2_with fail
    refine (c_l02Table _).mono ?_
    rintro e w2 ⟨g, rfl, HG, hx⟩
    have hg := HG.1
    have l0 := HG.2 k (by omega)
    clear HG
    generalize TT k = y0 at *
    go_wp2_with fail
    go_ret
    exact ⟨by rw [HS.out, HV.out]; go_num, hx⟩
  · have HV := hide (sin0_r hk h0)
    have hk89 : k < 90 := by omega
    have hrr : 0 < (180000 - z) % 1000 ∧ (180000 - z) % 1000 < 1000 := by omega
    clear hk h0
    generalize (180000 - z) % 1000 = r at *
    have b1 := TT_bd (k + 1)
    have b2 := slope_bd k (r := r) (by omega) (by omega)
    have b3 := divR_bd (a := slope k r) (b := 1000) (by omega) (by omega)
    have b4 : -1000000000 ≤ (TT (k + 1) - TT k) * r ∧ (TT (k + 1) - TT k) * r ≤ 1000000000 := b2
    have HD := hide (fun (W : World) => c_l01Div (slope k r) 1000 W (by omega) (by omega))
    unfold slope at HD HV b3 b2
    go_enter Tryz.func93, Tryz.ntmps93
    go_wp2_with fail
    refine (HNO.out w).mono ?_
    rintro e w1 ⟨rfl, rfl⟩
    go_wp2_with fail
    refine (c_l02Table _).mono ?_
    rintro e w2 ⟨g, rfl, HG, hx⟩
    have hg := HG.1
    have l0 := HG.2 k (by omega)
    have l1 := HG.2 (k + 1) (by omega)
    clear HG
    generalize TT k = y0 at *
    generalize TT (k + 1) = y1 at *
    have hkk : ((k : Int) + 1).toNat = k + 1 := by omega
    go_wp2_with fail
    refine wp_region_x (by kernel_rfl) (by kernel_rfl) ?_
    repeat (go_big_quiet_step ((go_at_call 92; exact call_q (HD.out _))))
    refine wpQuiet_nil ?_
    rintro _ ⟨q, rfl⟩
    go_wp2_with fail
    go_ret
    exact ⟨by rw [HS.out, HV.out]; go_num, hx.xt q⟩

set_option maxHeartbeats 1600000 in
theorem c_l02Sine3 (a z : Int) (w : World) (ha : -1000000000 ≤ a ∧ a ≤ 1000000000) (hz : a % 360000 = z) (h : 180000 ≤ z) (h2 : ¬ 90000 < z - 180000) : Calls Tryz.prog 93 #[.int .i64 a] w fun e w' => e = .returned (.int .i64 (sinA z)) ∧ IsX w w' := by
  have HNO := hide (fun W => c_l02Normal a W ha)
  have hzb : 0 ≤ z ∧ z < 360000 := by omega
  rw [hz] at HNO
  clear hz ha
  have HS := hide (sinA_q3 h h2)
  obtain ⟨k, hk⟩ := Int.eq_ofNat_of_zero_le (show 0 ≤ (z - 180000) / 1000 by omega)
  have hk90 : k ≤ 90 := by omega
  have hq : (z - 180000).tdiv 1000 = (k : Int) := by rw [Int.tdiv_eq_ediv_of_nonneg (by omega)]; exact hk
  have hm : (z - 180000).tmod 1000 = (z - 180000) % 1000 := Int.tmod_eq_emod_of_nonneg (by omega)
  have b0 := TT_bd k
  by_cases h0 : (z - 180000) % 1000 = 0
  · have HV := hide (sin0_0 hk h0)
    rw [h0] at hm
    clear hk h0
    go_enter Tryz.func93, Tryz.ntmps93
    go_wp2_with fail
    refine (HNO.out w).mono ?_
    rintro e w1 ⟨rfl, rfl⟩
    go_wp2_with fail
    refine (c_l02Table _).mono ?_
    rintro e w2 ⟨g, rfl, HG, hx⟩
    have hg := HG.1
    have l0 := HG.2 k (by omega)
    clear HG
    generalize TT k = y0 at *
    go_wp2_with fail
    go_ret
    exact ⟨by rw [HS.out, HV.out]; go_num, hx⟩
  · have HV := hide (sin0_r hk h0)
    have hk89 : k < 90 := by omega
    have hrr : 0 < (z - 180000) % 1000 ∧ (z - 180000) % 1000 < 1000 := by omega
    clear hk h0
    generalize (z - 180000) % 1000 = r at *
    have b1 := TT_bd (k + 1)
    have b2 := slope_bd k (r := r) (by omega) (by omega)
    have b3 := divR_bd (a := slope k r) (b := 1000) (by omega) (by omega)
    have b4 : -1000000000 ≤ (TT (k + 1) - TT k) * r ∧ (TT (k + 1) - TT k) * r ≤ 1000000000 := b2
    have HD := hide (fun (W : World) => c_l01Div (slope k r) 1000 W (by omega) (by omega))
    unfold slope at HD HV b3 b2
    go_enter Tryz.func93, Tryz.ntmps93
    go_wp2_with fail
    refine (HNO.out w).mono ?_
    rintro e w1 ⟨rfl, rfl⟩
    go_wp2_with fail
    refine (c_l02Table _).mono ?_
    rintro e w2 ⟨g, rfl, HG, hx⟩
    have hg := HG.1
    have l0 := HG.2 k (by omega)
    have l1 := HG.2 (k + 1) (by omega)
    clear HG
    generalize TT k = y0 at *
    generalize TT (k + 1) = y1 at *
    have hkk : ((k : Int) + 1).toNat = k + 1 := by omega
    go_wp2_with fail
    refine wp_region_x (by kernel_rfl) (by kernel_rfl) ?_
    repeat (go_big_quiet_step ((go_at_call 92; exact call_q (HD.out _))))
    refine wpQuiet_nil ?_
    rintro _ ⟨q, rfl⟩
    go_wp2_with fail
    go_ret
    exact ⟨by rw [HS.out, HV.out]; go_num, hx.xt q⟩

set_option maxHeartbeats 1600000 in
theorem c_l02Sine4 (a z : Int) (w : World) (ha : -1000000000 ≤ a ∧ a ≤ 1000000000) (hz : a % 360000 = z) (h : 180000 ≤ z) (h2 : 90000 < z - 180000) : Calls Tryz.prog 93 #[.int .i64 a] w fun e w' => e = .returned (.int .i64 (sinA z)) ∧ IsX w w' := by
  have HNO := hide (fun W => c_l02Normal a W ha)
  have hzb : 0 ≤ z ∧ z < 360000 := by omega
  rw [hz] at HNO
  clear hz ha
  have HS := hide (sinA_q4 h h2)
  obtain ⟨k, hk⟩ := Int.eq_ofNat_of_zero_le (show 0 ≤ (180000 - (z - 180000)) / 1000 by omega)
  have hk90 : k ≤ 90 := by omega
  have hq : (180000 - (z - 180000)).tdiv 1000 = (k : Int) := by rw [Int.tdiv_eq_ediv_of_nonneg (by omega)]; exact hk
  have hm : (180000 - (z - 180000)).tmod 1000 = (180000 - (z - 180000)) % 1000 := Int.tmod_eq_emod_of_nonneg (by omega)
  have b0 := TT_bd k
  by_cases h0 : (180000 - (z - 180000)) % 1000 = 0
  · have HV := hide (sin0_0 hk h0)
    rw [h0] at hm
    clear hk h0
    go_enter Tryz.func93, Tryz.ntmps93
    go_wp2_with fail
    refine (HNO.out w).mono ?_
    rintro e w1 ⟨rfl, rfl⟩
    go_wp2_with fail
    refine (c_l02Table _).mono ?_
    rintro e w2 ⟨g, rfl, HG, hx⟩
    have hg := HG.1
    have l0 := HG.2 k (by omega)
    clear HG
    generalize TT k = y0 at *
    go_wp2_with fail
    go_ret
    exact ⟨by rw [HS.out, HV.out]; go_num, hx⟩
  · have HV := hide (sin0_r hk h0)
    have hk89 : k < 90 := by omega
    have hrr : 0 < (180000 - (z - 180000)) % 1000 ∧ (180000 - (z - 180000)) % 1000 < 1000 := by omega
    clear hk h0
    generalize (180000 - (z - 180000)) % 1000 = r at *
    have b1 := TT_bd (k + 1)
    have b2 := slope_bd k (r := r) (by omega) (by omega)
    have b3 := divR_bd (a := slope k r) (b := 1000) (by omega) (by omega)
    have b4 : -1000000000 ≤ (TT (k + 1) - TT k) * r ∧ (TT (k + 1) - TT k) * r ≤ 1000000000 := b2
    have HD := hide (fun (W : World) => c_l01Div (slope k r) 1000 W (by omega) (by omega))
    unfold slope at HD HV b3 b2
    go_enter Tryz.func93, Tryz.ntmps93
    go_wp2_with fail
    refine (HNO.out w).mono ?_
    rintro e w1 ⟨rfl, rfl⟩
    go_wp2_with fail
    refine (c_l02Table _).mono ?_
    rintro e w2 ⟨g, rfl, HG, hx⟩
    have hg := HG.1
    have l0 := HG.2 k (by omega)
    have l1 := HG.2 (k + 1) (by omega)
    clear HG
    generalize TT k = y0 at *
    generalize TT (k + 1) = y1 at *
    have hkk : ((k : Int) + 1).toNat = k + 1 := by omega
    go_wp2_with fail
    refine wp_region_x (by kernel_rfl) (by kernel_rfl) ?_
    repeat (go_big_quiet_step ((go_at_call 92; exact call_q (HD.out _))))
    refine wpQuiet_nil ?_
    rintro _ ⟨q, rfl⟩
    go_wp2_with fail
    go_ret
    exact ⟨by rw [HS.out, HV.out]; go_num, hx.xt q⟩

end Go.Proofs.YtfcfgkkkepifhaaGreatDoor
