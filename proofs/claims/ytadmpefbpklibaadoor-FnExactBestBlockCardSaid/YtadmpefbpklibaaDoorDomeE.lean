/- Products, lengths and separations of vectors: what the reference and the program compute. Conditions: vectors of at most 1070000 (2300000 where told); the table of sines as the program's text lays it. -/
import Derived.Test.YtadmpefbpklibaaDoorDomeC
namespace Go.Proofs.YtadmpefbpklibaaDoor
set_option linter.unusedVariables false
open Go.RowKit

set_option maxHeartbeats 6400000 in
set_option maxRecDepth 100000 in
theorem c_dotOf (a b : V3) (w : World) (ha : a.in_ 1070000) (hb : b.in_ 1070000) : Calls Tryd.prog 90 #[a.val, b.val] w fun e w' => e = .returned (.int .i64 (dotZ a b)) ∧ IsX w w' := by
  obtain ⟨a0, a1, a2⟩ := a
  obtain ⟨b0, b1, b2⟩ := b
  obtain ⟨ha0, ha1, ha2⟩ := ha
  obtain ⟨hb0, hb1, hb2⟩ := hb
  simp only at ha0 ha1 ha2 hb0 hb1 hb2
  have m0 := mul_bd2 ha0 hb0
  obtain ⟨p0, hp0⟩ : ∃ p, p = a0 * b0 := ⟨_, rfl⟩
  rw [← hp0] at m0
  have e0 : a0 * b0 = p0 := hp0.symm
  have m1 := mul_bd2 ha1 hb1
  obtain ⟨p1, hp1⟩ : ∃ p, p = a1 * b1 := ⟨_, rfl⟩
  rw [← hp1] at m1
  have e1 : a1 * b1 = p1 := hp1.symm
  have m2 := mul_bd2 ha2 hb2
  obtain ⟨p2, hp2⟩ : ∃ p, p = a2 * b2 := ⟨_, rfl⟩
  rw [← hp2] at m2
  have e2 : a2 * b2 = p2 := hp2.symm
  have HN := hide (fun (V : World) => c_nearest_1000000 (p0 + p1 + p2) V (by omega))
  have HD := hide (show dotZ ⟨a0, a1, a2⟩ ⟨b0, b1, b2⟩ = divR (p0 + p1 + p2) 1000000 by rw [hp0, hp1, hp2]; rfl)
  simp only [V3.val]
  clear hp0 hp1 hp2
  go_enter Tryd.func90, Tryd.ntmps90
  go_wp2_with fail
  have HX := hide (show IsX w ((w.alloc (.cells #[.int .i64 a0, .int .i64 a1, .int .i64 a2] 48)).alloc (.cells #[.int .i64 b0, .int .i64 b1, .int .i64 b2] 48)) from ((IsX.refl w).alloc _).alloc _)
  generalize (w.alloc (.cells #[.int .i64 a0, .int .i64 a1, .int .i64 a2] 48)).alloc (.cells #[.int .i64 b0, .int .i64 b1, .int .i64 b2] 48) = W at *
  refine (HN.out _).mono ?_
  rintro e w1 ⟨rfl, hx⟩
  go_wp2_with fail
  go_ret
  exact ⟨by rw [HD.out]; rfl, HX.out.trans hx⟩

set_option maxHeartbeats 6400000 in
set_option maxRecDepth 100000 in
theorem c_l04Dot (a b : V3) (w : World) (ha : a.in_ 1070000) (hb : b.in_ 1070000) : Calls Tryd.prog 95 #[a.val, b.val] w fun e w' => e = .returned (.int .i64 (dotZ a b)) ∧ IsX w w' := by
  obtain ⟨a0, a1, a2⟩ := a
  obtain ⟨b0, b1, b2⟩ := b
  obtain ⟨ha0, ha1, ha2⟩ := ha
  obtain ⟨hb0, hb1, hb2⟩ := hb
  simp only at ha0 ha1 ha2 hb0 hb1 hb2
  have m0 := mul_bd2 ha0 hb0
  obtain ⟨p0, hp0⟩ : ∃ p, p = a0 * b0 := ⟨_, rfl⟩
  rw [← hp0] at m0
  have e0 : a0 * b0 = p0 := hp0.symm
  have m1 := mul_bd2 ha1 hb1
  obtain ⟨p1, hp1⟩ : ∃ p, p = a1 * b1 := ⟨_, rfl⟩
  rw [← hp1] at m1
  have e1 : a1 * b1 = p1 := hp1.symm
  have m2 := mul_bd2 ha2 hb2
  obtain ⟨p2, hp2⟩ : ∃ p, p = a2 * b2 := ⟨_, rfl⟩
  rw [← hp2] at m2
  have e2 : a2 * b2 = p2 := hp2.symm
  have HN := hide (fun (V : World) => c_l01Div (p0 + p1 + p2) 1000000 V (by omega) (by omega))
  have HD := hide (show dotZ ⟨a0, a1, a2⟩ ⟨b0, b1, b2⟩ = divR (p0 + p1 + p2) 1000000 by rw [hp0, hp1, hp2]; rfl)
  simp only [V3.val]
  clear hp0 hp1 hp2
  go_enter Tryd.func95, Tryd.ntmps95
  go_wp2_with fail
  have HX := hide (show IsX w ((w.alloc (.cells #[.int .i64 a0, .int .i64 a1, .int .i64 a2] 48)).alloc (.cells #[.int .i64 b0, .int .i64 b1, .int .i64 b2] 48)) from ((IsX.refl w).alloc _).alloc _)
  generalize (w.alloc (.cells #[.int .i64 a0, .int .i64 a1, .int .i64 a2] 48)).alloc (.cells #[.int .i64 b0, .int .i64 b1, .int .i64 b2] 48) = W at *
  refine (HN.out _).mono ?_
  rintro e w1 ⟨rfl, rfl⟩
  go_wp2_with fail
  go_ret
  exact ⟨by rw [HD.out]; rfl, HX.out⟩

set_option maxHeartbeats 6400000 in
set_option maxRecDepth 100000 in
theorem c_lengthOf (a : V3) (w : World) (ha : a.in_ 2300000) : Calls Tryd.prog 88 #[a.val] w fun e w' => e = .returned (.int .i64 (lenZ a)) ∧ IsX w w' := by
  obtain ⟨a0, a1, a2⟩ := a
  obtain ⟨ha0, ha1, ha2⟩ := ha
  simp only at ha0 ha1 ha2
  have m0 := sq_bd ha0
  obtain ⟨p0, hp0⟩ : ∃ p, p = a0 * a0 := ⟨_, rfl⟩
  rw [← hp0] at m0
  have e0 : a0 * a0 = p0 := hp0.symm
  have m1 := sq_bd ha1
  obtain ⟨p1, hp1⟩ : ∃ p, p = a1 * a1 := ⟨_, rfl⟩
  rw [← hp1] at m1
  have e1 : a1 * a1 = p1 := hp1.symm
  have m2 := sq_bd ha2
  obtain ⟨p2, hp2⟩ : ∃ p, p = a2 * a2 := ⟨_, rfl⟩
  rw [← hp2] at m2
  have e2 : a2 * a2 = p2 := hp2.symm
  have HN := hide (fun (V : World) => c_RootOf (p0 + p1 + p2) V (by omega) (by omega))
  have HD := hide (show lenZ ⟨a0, a1, a2⟩ = rootZ (p0 + p1 + p2) by rw [hp0, hp1, hp2]; rfl)
  simp only [V3.val]
  clear hp0 hp1 hp2
  go_enter Tryd.func88, Tryd.ntmps88
  go_wp2_with fail
  have HX := hide (show IsX w (w.alloc (.cells #[.int .i64 a0, .int .i64 a1, .int .i64 a2] 48)) from (IsX.refl w).alloc _)
  generalize w.alloc (.cells #[.int .i64 a0, .int .i64 a1, .int .i64 a2] 48) = W at *
  refine (HN.out _).mono ?_
  rintro e w1 ⟨rfl, rfl⟩
  go_wp2_with fail
  go_ret
  exact ⟨by rw [HD.out]; rfl, HX.out⟩

set_option maxHeartbeats 6400000 in
set_option maxRecDepth 100000 in
theorem c_l04Length (a : V3) (w : World) (ha : a.in_ 2300000) : Calls Tryd.prog 78 #[a.val] w fun e w' => e = .returned (.int .i64 (lenZ a)) ∧ IsX w w' := by
  obtain ⟨a0, a1, a2⟩ := a
  obtain ⟨ha0, ha1, ha2⟩ := ha
  simp only at ha0 ha1 ha2
  have m0 := sq_bd ha0
  obtain ⟨p0, hp0⟩ : ∃ p, p = a0 * a0 := ⟨_, rfl⟩
  rw [← hp0] at m0
  have e0 : a0 * a0 = p0 := hp0.symm
  have m1 := sq_bd ha1
  obtain ⟨p1, hp1⟩ : ∃ p, p = a1 * a1 := ⟨_, rfl⟩
  rw [← hp1] at m1
  have e1 : a1 * a1 = p1 := hp1.symm
  have m2 := sq_bd ha2
  obtain ⟨p2, hp2⟩ : ∃ p, p = a2 * a2 := ⟨_, rfl⟩
  rw [← hp2] at m2
  have e2 : a2 * a2 = p2 := hp2.symm
  have HN := hide (fun (V : World) => c_l01Root (p0 + p1 + p2) V (by omega) (by omega))
  have HD := hide (show lenZ ⟨a0, a1, a2⟩ = rootZ (p0 + p1 + p2) by rw [hp0, hp1, hp2]; rfl)
  simp only [V3.val]
  clear hp0 hp1 hp2
  go_enter Tryd.func78, Tryd.ntmps78
  go_wp2_with fail
  have HX := hide (show IsX w (w.alloc (.cells #[.int .i64 a0, .int .i64 a1, .int .i64 a2] 48)) from (IsX.refl w).alloc _)
  generalize w.alloc (.cells #[.int .i64 a0, .int .i64 a1, .int .i64 a2] 48) = W at *
  refine (HN.out _).mono ?_
  rintro e w1 ⟨rfl, rfl⟩
  go_wp2_with fail
  go_ret
  exact ⟨by rw [HD.out]; rfl, HX.out⟩

set_option maxHeartbeats 6400000 in
set_option maxRecDepth 100000 in
theorem c_validComponent (a : Int) (w : World) (h : -2000000 ≤ a ∧ a ≤ 2000000) : Calls Tryd.prog 98 #[.int .i64 a] w fun e w' => e = .returned (.bool true) ∧ w = w' := by
  have HW := hide (fun V => cb (c_within a (-2000000) 2000000 V) (inB_true.2 h))
  go_enter Tryd.func98, Tryd.ntmps98
  go_wp2_with fail
  refine (HW.out _).mono ?_
  rintro e w1 ⟨rfl, rfl⟩
  go_wp2_with fail
  go_ret
  exact ⟨rfl, rfl⟩

set_option maxHeartbeats 6400000 in
set_option maxRecDepth 100000 in
theorem c_ValidVector (a : V3) (w : World) (ha : a.in_ 1070000) : Calls Tryd.prog 87 #[a.val] w fun e w' => e = .returned (.bool true) ∧ IsX w w' := by
  obtain ⟨a0, a1, a2⟩ := a
  obtain ⟨ha0, ha1, ha2⟩ := ha
  simp only at ha0 ha1 ha2
  have H0 := hide (fun V => c_validComponent a0 V (by omega))
  have H1 := hide (fun V => c_validComponent a1 V (by omega))
  have H2 := hide (fun V => c_validComponent a2 V (by omega))
  simp only [V3.val]
  go_enter Tryd.func87, Tryd.ntmps87
  go_wp2_with fail
  refine (H0.out _).mono ?_
  rintro e w1 ⟨rfl, rfl⟩
  go_wp2_with fail
  refine (H1.out _).mono ?_
  rintro e w1 ⟨rfl, rfl⟩
  go_wp2_with fail
  refine (H2.out _).mono ?_
  rintro e w1 ⟨rfl, rfl⟩
  go_wp2_with fail
  go_ret
  exact ⟨rfl, (IsX.refl w).alloc _⟩

end Go.Proofs.YtadmpefbpklibaaDoor
