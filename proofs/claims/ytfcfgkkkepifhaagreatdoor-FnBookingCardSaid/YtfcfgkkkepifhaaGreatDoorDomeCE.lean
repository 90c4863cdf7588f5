/- Joined texts: DomeC, DomeE, DomeF. Conditions: told in each. -/
import Derived.Test.YtfcfgkkkepifhaaGreatDoorDomeB
import Derived.Test.YtfcfgkkkepifhaaGreatDoorTail
import Derived.Test.YtfcfgkkkepifhaaGreatDoorOwn
/- DomeC -/
namespace Go.Proofs.YtfcfgkkkepifhaaGreatDoor
set_option linter.unusedVariables false
open Go.RowKit

def angI (a : Int) : Prop := -1000000000 ≤ a ∧ a ≤ 1000000000

set_option maxHeartbeats 6400000 in
set_option maxRecDepth 100000 in
theorem c_directionOf (lon lat : Int) (w : World) (hlo : angI lon) (hla : angI lat) (HTAB : ∀ W, IsX w W → sinTab W) : Calls Tryz.prog 103 #[.int .i64 lon, .int .i64 lat] w fun e w' => e = .returned (dirZ lon lat).val ∧ IsX w w' := by
  unfold angI at hlo hla
  have HCA := hide (fun V (hV : IsX w V) => c_CosineOf lat V (HTAB V hV) (by omega))
  have HCO := hide (fun V (hV : IsX w V) => c_CosineOf lon V (HTAB V hV) (by omega))
  have HSO := hide (fun V (hV : IsX w V) => c_SineOf lon V (HTAB V hV) (by omega))
  have HSA := hide (fun V (hV : IsX w V) => c_SineOf lat V (HTAB V hV) (by omega))
  rw [show cosA (lat % 360000) = cosM lat from rfl] at HCA
  rw [show cosA (lon % 360000) = cosM lon from rfl] at HCO
  rw [show sinA (lon % 360000) = sinM lon from rfl] at HSO
  rw [show sinA (lat % 360000) = sinM lat from rfl] at HSA
  have m1 := mul_bd2 (cosM_bd lat) (cosM_bd lon)
  have m2 := mul_bd2 (cosM_bd lat) (sinM_bd lon)
  obtain ⟨p1, hp1⟩ : ∃ p1, p1 = cosM lat * cosM lon := ⟨_, rfl⟩
  obtain ⟨p2, hp2⟩ : ∃ p2, p2 = cosM lat * sinM lon := ⟨_, rfl⟩
  have HD := hide (show (dirZ lon lat).val = .agg #[.int .i64 (divR p1 1000000), .int .i64 (divR p2 1000000), .int .i64 (sinM lat)] by rw [hp1, hp2]; rfl)
  rw [← hp1] at m1
  rw [← hp2] at m2
  have e1 : cosM lat * cosM lon = p1 := hp1.symm
  have e2 : cosM lat * sinM lon = p2 := hp2.symm
  have HN1 := hide (fun (V : World) => c_nearest_1000000 p1 V (by omega))
  have HN2 := hide (fun (V : World) => c_nearest_1000000 p2 V (by omega))
  generalize cosM lat = ca at *
  generalize cosM lon = co at *
  generalize sinM lon = so at *
  generalize sinM lat = sa at *
  clear hp1 hp2 HTAB
  go_enter Tryz.func103, Tryz.ntmps103
  go_wp2_with fail
  obtain ⟨RB, hRB⟩ : ∃ RB, RB = w.heap.size := ⟨_, rfl⟩
  have HRB : Hid (w.heap.size ≤ RB) := hide (by omega)
  obtain ⟨w0, hw0⟩ : ∃ w0, w0 = w.alloc (.cells #[.int .i64 0, .int .i64 0, .int .i64 0] 29) := ⟨_, rfl⟩
  have HB := hide (show Blk w0 RB 29 #[.int .i64 0, .int .i64 0, .int .i64 0] from by rw [hw0, hRB]; exact Blk.new _ _ _)
  have HX0 := hide (show IsX w w0 from hw0 ▸ (IsX.refl w).alloc _)
  rw [← hRB, ← hw0]
  clear hRB hw0
  refine (HCA.out _ HX0.out).mono ?_
  rintro e w1 ⟨rfl, hx⟩
  have HX1 := hide (HX0.out.trans hx)
  replace HB := hide (HB.out.x hx)
  clear hx
  go_wp2_with fail
  refine (HCO.out _ HX1.out).mono ?_
  rintro e w2 ⟨rfl, hx⟩
  have HX2 := hide (HX1.out.trans hx)
  replace HB := hide (HB.out.x hx)
  clear hx
  go_wp2_with fail
  refine (HN1.out _).mono ?_
  rintro e w3 ⟨rfl, hx⟩
  have HX3 := hide (HX2.out.trans hx)
  replace HB := hide (HB.out.x hx)
  clear hx
  go_wp2_with fail
  refine (HSO.out _ HX3.out).mono ?_
  rintro e w4 ⟨rfl, hx⟩
  have HX4 := hide (HX3.out.trans hx)
  replace HB := hide (HB.out.x hx)
  clear hx
  go_wp2_with fail
  refine (HN2.out _).mono ?_
  rintro e w5 ⟨rfl, hx⟩
  have HX5 := hide (HX4.out.trans hx)
  replace HB := hide (HB.out.x hx)
  clear hx
  go_wp2_with fail
  refine (HSA.out _ HX5.out).mono ?_
  rintro e w6 ⟨rfl, hx⟩
  have HX6 := hide (HX5.out.trans hx)
  replace HB := hide (HB.out.x hx)
  clear hx
  have f0 := HB.out.cell 0
  have f1 := HB.out.cell 1
  have f2 := HB.out.cell 2
  have z0 := HB.out.frozen 0
  have z1 := HB.out.frozen 1
  have z2 := HB.out.frozen 2
  have hlt5 := HB.out.lt
  simp at f0 f1 f2
  go_wp2
  have hX6 : IsX w (((w6.setCell ⟨RB, 0, none⟩ (.int .i64 (divR p1 1000000))).setCell ⟨RB, 1, none⟩ (.int .i64 (divR p2 1000000))).setCell ⟨RB, 2, none⟩ (.int .i64 sa)) :=
    IsX.setCell (a := ⟨RB, 2, none⟩) (IsX.setCell (a := ⟨RB, 1, none⟩) (IsX.setCell (a := ⟨RB, 0, none⟩) HX6.out HRB.out _) HRB.out _) HRB.out _
  have hB6 := ((HB.out.set_ 0 (.int .i64 (divR p1 1000000))).set_ 1 (.int .i64 (divR p2 1000000))).set_ 2 (.int .i64 sa)
  clear f0 f1 f2 z0 z1 z2
  generalize ((w6.setCell ⟨RB, 0, none⟩ (.int .i64 (divR p1 1000000))).setCell ⟨RB, 1, none⟩ (.int .i64 (divR p2 1000000))).setCell ⟨RB, 2, none⟩ (.int .i64 sa) = V6 at *
  have r0 := hB6.cell 0
  have r1 := hB6.cell 1
  have r2 := hB6.cell 2
  simp at r0 r1 r2
  exact bodyPost_ret (v := .agg #[.int .i64 (divR p1 1000000), .int .i64 (divR p2 1000000), .int .i64 sa]) (by simp [results, Tryz.results103, go_sem, r0, r1, r2]) rfl ⟨by rw [HD.out], hX6⟩

set_option maxHeartbeats 6400000 in
set_option maxRecDepth 100000 in
theorem c_l04Direction (lon lat : Int) (w : World) (hlo : angI lon) (hla : angI lat) : Calls Tryz.prog 156 #[.int .i64 lon, .int .i64 lat] w fun e w' => e = .returned (dirZ lon lat).val ∧ IsX w w' := by
  unfold angI at hlo hla
  have HCA := hide (fun V (hV : IsX w V) => c_l02Cosine lat V (by omega))
  have HCO := hide (fun V (hV : IsX w V) => c_l02Cosine lon V (by omega))
  have HSO := hide (fun V (hV : IsX w V) => c_l02Sine lon V (by omega))
  have HSA := hide (fun V (hV : IsX w V) => c_l02Sine lat V (by omega))
  rw [show cosA (lat % 360000) = cosM lat from rfl] at HCA
  rw [show cosA (lon % 360000) = cosM lon from rfl] at HCO
  rw [show sinA (lon % 360000) = sinM lon from rfl] at HSO
  rw [show sinA (lat % 360000) = sinM lat from rfl] at HSA
  have m1 := mul_bd2 (cosM_bd lat) (cosM_bd lon)
  have m2 := mul_bd2 (cosM_bd lat) (sinM_bd lon)
  obtain ⟨p1, hp1⟩ : ∃ p1, p1 = cosM lat * cosM lon := ⟨_, rfl⟩
  obtain ⟨p2, hp2⟩ : ∃ p2, p2 = cosM lat * sinM lon := ⟨_, rfl⟩
  have HD := hide (show (dirZ lon lat).val = .agg #[.int .i64 (divR p1 1000000), .int .i64 (divR p2 1000000), .int .i64 (sinM lat)] by rw [hp1, hp2]; rfl)
  rw [← hp1] at m1
  rw [← hp2] at m2
  have e1 : cosM lat * cosM lon = p1 := hp1.symm
  have e2 : cosM lat * sinM lon = p2 := hp2.symm
  have HN1 := hide (fun (V : World) => c_l01Div p1 1000000 V (by omega) (by omega))
  have HN2 := hide (fun (V : World) => c_l01Div p2 1000000 V (by omega) (by omega))
  generalize cosM lat = ca at *
  generalize cosM lon = co at *
  generalize sinM lon = so at *
  generalize sinM lat = sa at *
  clear hp1 hp2
  go_enter Tryz.func156, Tryz.ntmps156
  go_wp2_with fail
  obtain ⟨RB, hRB⟩ : ∃ RB, RB = w.heap.size := ⟨_, rfl⟩
  have HRB : Hid (w.heap.size ≤ RB) := hide (by omega)
  obtain ⟨w0, hw0⟩ : ∃ w0, w0 = w.alloc (.cells #[.int .i64 0, .int .i64 0, .int .i64 0] 29) := ⟨_, rfl⟩
  have HB := hide (show Blk w0 RB 29 #[.int .i64 0, .int .i64 0, .int .i64 0] from by rw [hw0, hRB]; exact Blk.new _ _ _)
  have HX0 := hide (show IsX w w0 from hw0 ▸ (IsX.refl w).alloc _)
  rw [← hRB, ← hw0]
  clear hRB hw0
  refine (HCA.out _ HX0.out).mono ?_
  rintro e w1 ⟨rfl, hx⟩
  have HX1 := hide (HX0.out.trans hx)
  replace HB := hide (HB.out.x hx)
  clear hx
  go_wp2_with fail
  refine (HCO.out _ HX1.out).mono ?_
  rintro e w2 ⟨rfl, hx⟩
  have HX2 := hide (HX1.out.trans hx)
  replace HB := hide (HB.out.x hx)
  clear hx
  go_wp2_with fail
  refine (HN1.out _).mono ?_
  rintro e w3 ⟨rfl, rfl⟩
  go_wp2_with fail
  refine (HSO.out _ HX2.out).mono ?_
  rintro e w4 ⟨rfl, hx⟩
  have HX4 := hide (HX2.out.trans hx)
  replace HB := hide (HB.out.x hx)
  clear hx
  go_wp2_with fail
  refine (HN2.out _).mono ?_
  rintro e w5 ⟨rfl, rfl⟩
  go_wp2_with fail
  refine (HSA.out _ HX4.out).mono ?_
  rintro e w6 ⟨rfl, hx⟩
  have HX6 := hide (HX4.out.trans hx)
  replace HB := hide (HB.out.x hx)
  clear hx
  have f0 := HB.out.cell 0
  have f1 := HB.out.cell 1
  have f2 := HB.out.cell 2
  have z0 := HB.out.frozen 0
  have z1 := HB.out.frozen 1
  have z2 := HB.out.frozen 2
  have hlt5 := HB.out.lt
  simp at f0 f1 f2
  go_wp2
  have hX6 : IsX w (((w6.setCell ⟨RB, 0, none⟩ (.int .i64 (divR p1 1000000))).setCell ⟨RB, 1, none⟩ (.int .i64 (divR p2 1000000))).setCell ⟨RB, 2, none⟩ (.int .i64 sa)) :=
    IsX.setCell (a := ⟨RB, 2, none⟩) (IsX.setCell (a := ⟨RB, 1, none⟩) (IsX.setCell (a := ⟨RB, 0, none⟩) HX6.out HRB.out _) HRB.out _) HRB.out _
  have hB6 := ((HB.out.set_ 0 (.int .i64 (divR p1 1000000))).set_ 1 (.int .i64 (divR p2 1000000))).set_ 2 (.int .i64 sa)
  clear f0 f1 f2 z0 z1 z2
  generalize ((w6.setCell ⟨RB, 0, none⟩ (.int .i64 (divR p1 1000000))).setCell ⟨RB, 1, none⟩ (.int .i64 (divR p2 1000000))).setCell ⟨RB, 2, none⟩ (.int .i64 sa) = V6 at *
  have r0 := hB6.cell 0
  have r1 := hB6.cell 1
  have r2 := hB6.cell 2
  simp at r0 r1 r2
  exact bodyPost_ret (v := .agg #[.int .i64 (divR p1 1000000), .int .i64 (divR p2 1000000), .int .i64 sa]) (by simp [results, Tryz.results156, go_sem, r0, r1, r2]) rfl ⟨by rw [HD.out], hX6⟩

set_option maxHeartbeats 6400000 in
set_option maxRecDepth 100000 in
theorem c_crossOf (a b : V3) (w : World) (ha : a.in_ 1070000) (hb : b.in_ 1070000) : Calls Tryz.prog 136 #[a.val, b.val] w fun e w' => e = .returned (crossZ a b).val ∧ IsX w w' := by
  obtain ⟨a0, a1, a2⟩ := a
  obtain ⟨b0, b1, b2⟩ := b
  obtain ⟨ha0, ha1, ha2⟩ := ha
  obtain ⟨hb0, hb1, hb2⟩ := hb
  simp only at ha0 ha1 ha2 hb0 hb1 hb2
  have m0 := mul_bd2 ha1 hb2
  obtain ⟨p0, hp0⟩ : ∃ p, p = a1 * b2 := ⟨_, rfl⟩
  rw [← hp0] at m0
  have e0 : a1 * b2 = p0 := hp0.symm
  have m1 := mul_bd2 ha2 hb1
  obtain ⟨p1, hp1⟩ : ∃ p, p = a2 * b1 := ⟨_, rfl⟩
  rw [← hp1] at m1
  have e1 : a2 * b1 = p1 := hp1.symm
  have m2 := mul_bd2 ha2 hb0
  obtain ⟨p2, hp2⟩ : ∃ p, p = a2 * b0 := ⟨_, rfl⟩
  rw [← hp2] at m2
  have e2 : a2 * b0 = p2 := hp2.symm
  have m3 := mul_bd2 ha0 hb2
  obtain ⟨p3, hp3⟩ : ∃ p, p = a0 * b2 := ⟨_, rfl⟩
  rw [← hp3] at m3
  have e3 : a0 * b2 = p3 := hp3.symm
  have m4 := mul_bd2 ha0 hb1
  obtain ⟨p4, hp4⟩ : ∃ p, p = a0 * b1 := ⟨_, rfl⟩
  rw [← hp4] at m4
  have e4 : a0 * b1 = p4 := hp4.symm
  have m5 := mul_bd2 ha1 hb0
  obtain ⟨p5, hp5⟩ : ∃ p, p = a1 * b0 := ⟨_, rfl⟩
  rw [← hp5] at m5
  have e5 : a1 * b0 = p5 := hp5.symm
  have HN0 := hide (fun (V : World) => c_nearest_1000000 (p0 - p1) V (by omega))
  have HN1 := hide (fun (V : World) => c_nearest_1000000 (p2 - p3) V (by omega))
  have HN2 := hide (fun (V : World) => c_nearest_1000000 (p4 - p5) V (by omega))
  have HD := hide (show (crossZ ⟨a0, a1, a2⟩ ⟨b0, b1, b2⟩).val = .agg #[.int .i64 (divR (p0 - p1) 1000000), .int .i64 (divR (p2 - p3) 1000000), .int .i64 (divR (p4 - p5) 1000000)] by rw [hp0, hp1, hp2, hp3, hp4, hp5]; rfl)
  simp only [V3.val]
  simp only [V3.val] at HD
  clear hp0 hp1 hp2 hp3 hp4 hp5
  obtain ⟨WA, hWA⟩ : ∃ W, W = ((w.alloc (.cells #[.int .i64 a0, .int .i64 a1, .int .i64 a2] 29)).alloc (.cells #[.int .i64 b0, .int .i64 b1, .int .i64 b2] 29)).alloc (.cells #[.int .i64 0, .int .i64 0, .int .i64 0] 29) := ⟨_, rfl⟩
  obtain ⟨BA, hBA⟩ : ∃ B, B = w.heap.size := ⟨_, rfl⟩
  have HBA := hide (show Blk WA BA 29 #[.int .i64 a0, .int .i64 a1, .int .i64 a2] from by rw [hWA, hBA]; exact ((Blk.new w 29 _).alloc _).alloc _)
  obtain ⟨BB, hBB⟩ : ∃ B, B = BA + 1 := ⟨_, rfl⟩
  have HBB := hide (show Blk WA BB 29 #[.int .i64 b0, .int .i64 b1, .int .i64 b2] from by rw [hWA, hBB, hBA]; have h := (Blk.new (w.alloc (.cells #[.int .i64 a0, .int .i64 a1, .int .i64 a2] 29)) 29 #[.int .i64 b0, .int .i64 b1, .int .i64 b2]).alloc (.cells #[.int .i64 0, .int .i64 0, .int .i64 0] 29); simpa using h)
  obtain ⟨RB, hRB⟩ : ∃ B, B = BA + 2 := ⟨_, rfl⟩
  have HBR := hide (show Blk WA RB 29 #[.int .i64 0, .int .i64 0, .int .i64 0] from by rw [hWA, hRB, hBA]; have h := Blk.new ((w.alloc (.cells #[.int .i64 a0, .int .i64 a1, .int .i64 a2] 29)).alloc (.cells #[.int .i64 b0, .int .i64 b1, .int .i64 b2] 29)) 29 #[.int .i64 0, .int .i64 0, .int .i64 0]; simpa using h)
  have HRB : Hid (w.heap.size ≤ RB) := hide (by omega)
  have HXA := hide (show IsX w WA from by rw [hWA]; exact (((IsX.refl w).alloc _).alloc _).alloc _)
  go_enter Tryz.func136, Tryz.ntmps136
  go_wp2_with fail
  simp only [World.size_alloc, Nat.add_assoc, Nat.reduceAdd]
  rw [← hWA, ← hBA, ← hBB, ← hRB]
  clear hWA hBA hBB hRB
  have q0 := HBA.out.cell 0
  have q1 := HBA.out.cell 1
  have q2 := HBA.out.cell 2
  have q3 := HBB.out.cell 0
  have q4 := HBB.out.cell 1
  have q5 := HBB.out.cell 2
  simp at q0 q1 q2 q3 q4 q5
  have ba := HBA.out.lt
  have bb := HBB.out.lt
  refine wp_region_x_tail 37 (by kernel_rfl) (by kernel_rfl) ?_
  simp only [List.take_succ_cons, List.take_zero, List.drop_succ_cons, List.drop_zero]
  repeat (go_big_quiet_step (fail))
  go_big_quiet_step ((go_at_call 65; exact call_x (HN0.out _)))
  repeat (go_big_quiet_step (fail))
  go_big_quiet_step ((go_at_call 65; exact call_x (HN1.out _)))
  repeat (go_big_quiet_step (fail))
  go_big_quiet_step ((go_at_call 65; exact call_x (HN2.out _)))
  repeat (go_big_quiet_step (fail))
  refine wpQuiet_nil ?_
  rintro _ ⟨q, rfl⟩
  have HB := hide (HBR.out.x ⟨q, rfl⟩)
  have HXQ := hide (HXA.out.trans ⟨q, rfl⟩)
  clear q0 q1 q2 q3 q4 q5 ba bb HBA HBB HBR HXA
  generalize xt WA q = V at *
  have f0 := HB.out.cell 0
  have f1 := HB.out.cell 1
  have f2 := HB.out.cell 2
  have z0 := HB.out.frozen 0
  have z1 := HB.out.frozen 1
  have z2 := HB.out.frozen 2
  have hlt5 := HB.out.lt
  simp at f0 f1 f2
  go_wp2
  have hX6 : IsX w (((V.setCell ⟨RB, 0, none⟩ (.int .i64 (divR (p0 - p1) 1000000))).setCell ⟨RB, 1, none⟩ (.int .i64 (divR (p2 - p3) 1000000))).setCell ⟨RB, 2, none⟩ (.int .i64 (divR (p4 - p5) 1000000))) :=
    IsX.setCell (a := ⟨RB, 2, none⟩) (IsX.setCell (a := ⟨RB, 1, none⟩) (IsX.setCell (a := ⟨RB, 0, none⟩) HXQ.out HRB.out _) HRB.out _) HRB.out _
  have hB6 := ((HB.out.set_ 0 (.int .i64 (divR (p0 - p1) 1000000))).set_ 1 (.int .i64 (divR (p2 - p3) 1000000))).set_ 2 (.int .i64 (divR (p4 - p5) 1000000))
  clear f0 f1 f2 z0 z1 z2
  generalize ((V.setCell ⟨RB, 0, none⟩ (.int .i64 (divR (p0 - p1) 1000000))).setCell ⟨RB, 1, none⟩ (.int .i64 (divR (p2 - p3) 1000000))).setCell ⟨RB, 2, none⟩ (.int .i64 (divR (p4 - p5) 1000000)) = V6 at *
  have r0 := hB6.cell 0
  have r1 := hB6.cell 1
  have r2 := hB6.cell 2
  simp at r0 r1 r2
  exact bodyPost_ret (v := .agg #[.int .i64 (divR (p0 - p1) 1000000), .int .i64 (divR (p2 - p3) 1000000), .int .i64 (divR (p4 - p5) 1000000)]) (by simp [results, Tryz.results136, go_sem, r0, r1, r2]) rfl ⟨by rw [HD.out], hX6⟩

set_option maxHeartbeats 6400000 in
set_option maxRecDepth 100000 in
theorem c_l04Cross (a b : V3) (w : World) (ha : a.in_ 1070000) (hb : b.in_ 1070000) : Calls Tryz.prog 179 #[a.val, b.val] w fun e w' => e = .returned (crossZ a b).val ∧ IsX w w' := by
  obtain ⟨a0, a1, a2⟩ := a
  obtain ⟨b0, b1, b2⟩ := b
  obtain ⟨ha0, ha1, ha2⟩ := ha
  obtain ⟨hb0, hb1, hb2⟩ := hb
  simp only at ha0 ha1 ha2 hb0 hb1 hb2
  have m0 := mul_bd2 ha1 hb2
  obtain ⟨p0, hp0⟩ : ∃ p, p = a1 * b2 := ⟨_, rfl⟩
  rw [← hp0] at m0
  have e0 : a1 * b2 = p0 := hp0.symm
  have m1 := mul_bd2 ha2 hb1
  obtain ⟨p1, hp1⟩ : ∃ p, p = a2 * b1 := ⟨_, rfl⟩
  rw [← hp1] at m1
  have e1 : a2 * b1 = p1 := hp1.symm
  have m2 := mul_bd2 ha2 hb0
  obtain ⟨p2, hp2⟩ : ∃ p, p = a2 * b0 := ⟨_, rfl⟩
  rw [← hp2] at m2
  have e2 : a2 * b0 = p2 := hp2.symm
  have m3 := mul_bd2 ha0 hb2
  obtain ⟨p3, hp3⟩ : ∃ p, p = a0 * b2 := ⟨_, rfl⟩
  rw [← hp3] at m3
  have e3 : a0 * b2 = p3 := hp3.symm
  have m4 := mul_bd2 ha0 hb1
  obtain ⟨p4, hp4⟩ : ∃ p, p = a0 * b1 := ⟨_, rfl⟩
  rw [← hp4] at m4
  have e4 : a0 * b1 = p4 := hp4.symm
  have m5 := mul_bd2 ha1 hb0
  obtain ⟨p5, hp5⟩ : ∃ p, p = a1 * b0 := ⟨_, rfl⟩
  rw [← hp5] at m5
  have e5 : a1 * b0 = p5 := hp5.symm
  have HN0 := hide (fun (V : World) => c_l01Div (p0 - p1) 1000000 V (by omega) (by omega))
  have HN1 := hide (fun (V : World) => c_l01Div (p2 - p3) 1000000 V (by omega) (by omega))
  have HN2 := hide (fun (V : World) => c_l01Div (p4 - p5) 1000000 V (by omega) (by omega))
  have HD := hide (show (crossZ ⟨a0, a1, a2⟩ ⟨b0, b1, b2⟩).val = .agg #[.int .i64 (divR (p0 - p1) 1000000), .int .i64 (divR (p2 - p3) 1000000), .int .i64 (divR (p4 - p5) 1000000)] by rw [hp0, hp1, hp2, hp3, hp4, hp5]; rfl)
  simp only [V3.val]
  simp only [V3.val] at HD
  clear hp0 hp1 hp2 hp3 hp4 hp5
  obtain ⟨WA, hWA⟩ : ∃ W, W = ((w.alloc (.cells #[.int .i64 a0, .int .i64 a1, .int .i64 a2] 29)).alloc (.cells #[.int .i64 b0, .int .i64 b1, .int .i64 b2] 29)).alloc (.cells #[.int .i64 0, .int .i64 0, .int .i64 0] 29) := ⟨_, rfl⟩
  obtain ⟨BA, hBA⟩ : ∃ B, B = w.heap.size := ⟨_, rfl⟩
  have HBA := hide (show Blk WA BA 29 #[.int .i64 a0, .int .i64 a1, .int .i64 a2] from by rw [hWA, hBA]; exact ((Blk.new w 29 _).alloc _).alloc _)
  obtain ⟨BB, hBB⟩ : ∃ B, B = BA + 1 := ⟨_, rfl⟩
  have HBB := hide (show Blk WA BB 29 #[.int .i64 b0, .int .i64 b1, .int .i64 b2] from by rw [hWA, hBB, hBA]; have h := (Blk.new (w.alloc (.cells #[.int .i64 a0, .int .i64 a1, .int .i64 a2] 29)) 29 #[.int .i64 b0, .int .i64 b1, .int .i64 b2]).alloc (.cells #[.int .i64 0, .int .i64 0, .int .i64 0] 29); simpa using h)
  obtain ⟨RB, hRB⟩ : ∃ B, B = BA + 2 := ⟨_, rfl⟩
  have HBR := hide (show Blk WA RB 29 #[.int .i64 0, .int .i64 0, .int .i64 0] from by rw [hWA, hRB, hBA]; have h := Blk.new ((w.alloc (.cells #[.int .i64 a0, .int .i64 a1, .int .i64 a2] 29)).alloc (.cells #[.int .i64 b0, .int .i64 b1, .int .i64 b2] 29)) 29 #[.int .i64 0, .int .i64 0, .int .i64 0]; simpa using h)
  have HRB : Hid (w.heap.size ≤ RB) := hide (by omega)
  have HXA := hide (show IsX w WA from by rw [hWA]; exact (((IsX.refl w).alloc _).alloc _).alloc _)
  go_enter Tryz.func179, Tryz.ntmps179
  go_wp2_with fail
  simp only [World.size_alloc, Nat.add_assoc, Nat.reduceAdd]
  rw [← hWA, ← hBA, ← hBB, ← hRB]
  clear hWA hBA hBB hRB
  have q0 := HBA.out.cell 0
  have q1 := HBA.out.cell 1
  have q2 := HBA.out.cell 2
  have q3 := HBB.out.cell 0
  have q4 := HBB.out.cell 1
  have q5 := HBB.out.cell 2
  simp at q0 q1 q2 q3 q4 q5
  have ba := HBA.out.lt
  have bb := HBB.out.lt
  refine wp_region_x_tail 37 (by kernel_rfl) (by kernel_rfl) ?_
  simp only [List.take_succ_cons, List.take_zero, List.drop_succ_cons, List.drop_zero]
  repeat (go_big_quiet_step (fail))
  go_big_quiet_step ((go_at_call 92; exact call_q (HN0.out _)))
  repeat (go_big_quiet_step (fail))
  go_big_quiet_step ((go_at_call 92; exact call_q (HN1.out _)))
  repeat (go_big_quiet_step (fail))
  go_big_quiet_step ((go_at_call 92; exact call_q (HN2.out _)))
  repeat (go_big_quiet_step (fail))
  refine wpQuiet_nil ?_
  rintro _ ⟨q, rfl⟩
  have HB := hide (HBR.out.x ⟨q, rfl⟩)
  have HXQ := hide (HXA.out.trans ⟨q, rfl⟩)
  clear q0 q1 q2 q3 q4 q5 ba bb HBA HBB HBR HXA
  generalize xt WA q = V at *
  have f0 := HB.out.cell 0
  have f1 := HB.out.cell 1
  have f2 := HB.out.cell 2
  have z0 := HB.out.frozen 0
  have z1 := HB.out.frozen 1
  have z2 := HB.out.frozen 2
  have hlt5 := HB.out.lt
  simp at f0 f1 f2
  go_wp2
  have hX6 : IsX w (((V.setCell ⟨RB, 0, none⟩ (.int .i64 (divR (p0 - p1) 1000000))).setCell ⟨RB, 1, none⟩ (.int .i64 (divR (p2 - p3) 1000000))).setCell ⟨RB, 2, none⟩ (.int .i64 (divR (p4 - p5) 1000000))) :=
    IsX.setCell (a := ⟨RB, 2, none⟩) (IsX.setCell (a := ⟨RB, 1, none⟩) (IsX.setCell (a := ⟨RB, 0, none⟩) HXQ.out HRB.out _) HRB.out _) HRB.out _
  have hB6 := ((HB.out.set_ 0 (.int .i64 (divR (p0 - p1) 1000000))).set_ 1 (.int .i64 (divR (p2 - p3) 1000000))).set_ 2 (.int .i64 (divR (p4 - p5) 1000000))
  clear f0 f1 f2 z0 z1 z2
  generalize ((V.setCell ⟨RB, 0, none⟩ (.int .i64 (divR (p0 - p1) 1000000))).setCell ⟨RB, 1, none⟩ (.int .i64 (divR (p2 - p3) 1000000))).setCell ⟨RB, 2, none⟩ (.int .i64 (divR (p4 - p5) 1000000)) = V6 at *
  have r0 := hB6.cell 0
  have r1 := hB6.cell 1
  have r2 := hB6.cell 2
  simp at r0 r1 r2
  exact bodyPost_ret (v := .agg #[.int .i64 (divR (p0 - p1) 1000000), .int .i64 (divR (p2 - p3) 1000000), .int .i64 (divR (p4 - p5) 1000000)]) (by simp [results, Tryz.results179, go_sem, r0, r1, r2]) rfl ⟨by rw [HD.out], hX6⟩

end Go.Proofs.YtfcfgkkkepifhaaGreatDoor

/- DomeE -/
namespace Go.Proofs.YtfcfgkkkepifhaaGreatDoor
set_option linter.unusedVariables false
open Go.RowKit

set_option maxHeartbeats 6400000 in
set_option maxRecDepth 100000 in
theorem c_dotOf (a b : V3) (w : World) (ha : a.in_ 1070000) (hb : b.in_ 1070000) : Calls Tryz.prog 137 #[a.val, b.val] w fun e w' => e = .returned (.int .i64 (dotZ a b)) ∧ IsX w w' := by
  obtain ⟨a0, a1, a2⟩ := a
  obtain ⟨b0, b1, b2⟩ := b
  obtain ⟨ha0, ha1, ha2⟩ := ha
  obtain ⟨hb0, hb1, hb2⟩ := hb
  simp only at ha0 ha1 ha2 hb0 hb1 hb2
  have m0 := mul_bd2 ha0 hb0
  obtain ⟨p0, hp0⟩ : ∃ p, p = a0 * b0 := ⟨_, rfl⟩
  rw [← hp0] at m0
  have e0 : a0 * b0 = p0 := hp0.symm
  have m1 := mul_bd2 ha1 hb1
  obtain ⟨p1, hp1⟩ : ∃ p, p = a1 * b1 := ⟨_, rfl⟩
  rw [← hp1] at m1
  have e1 : a1 * b1 = p1 := hp1.symm
  have m2 := mul_bd2 ha2 hb2
  obtain ⟨p2, hp2⟩ : ∃ p, p = a2 * b2 := ⟨_, rfl⟩
  rw [← hp2] at m2
  have e2 : a2 * b2 = p2 := hp2.symm
  have HN := hide (fun (V : World) => c_nearest_1000000 (p0 + p1 + p2) V (by omega))
  have HD := hide (show dotZ ⟨a0, a1, a2⟩ ⟨b0, b1, b2⟩ = divR (p0 + p1 + p2) 1000000 by rw [hp0, hp1, hp2]; rfl)
  simp only [V3.val]
  clear hp0 hp1 hp2
  go_enter Tryz.func137, Tryz.ntmps137
  go_wp2_with fail
  have HX := hide (show IsX w ((w.alloc (.cells #[.int .i64 a0, .int .i64 a1, .int .i64 a2] 29)).alloc (.cells #[.int .i64 b0, .int .i64 b1, .int .i64 b2] 29)) from ((IsX.refl w).alloc _).alloc _)
  generalize (w.alloc (.cells #[.int .i64 a0, .int .i64 a1, .int .i64 a2] 29)).alloc (.cells #[.int .i64 b0, .int .i64 b1, .int .i64 b2] 29) = W at *
  refine (HN.out _).mono ?_
  rintro e w1 ⟨rfl, hx⟩
  go_wp2_with fail
  go_ret
  exact ⟨by rw [HD.out]; rfl, HX.out.trans hx⟩

set_option maxHeartbeats 6400000 in
set_option maxRecDepth 100000 in
theorem c_l04Dot (a b : V3) (w : World) (ha : a.in_ 1070000) (hb : b.in_ 1070000) : Calls Tryz.prog 180 #[a.val, b.val] w fun e w' => e = .returned (.int .i64 (dotZ a b)) ∧ IsX w w' := by
  obtain ⟨a0, a1, a2⟩ := a
  obtain ⟨b0, b1, b2⟩ := b
  obtain ⟨ha0, ha1, ha2⟩ := ha
  obtain ⟨hb0, hb1, hb2⟩ := hb
  simp only at ha0 ha1 ha2 hb0 hb1 hb2
  have m0 := mul_bd2 ha0 hb0
  obtain ⟨p0, hp0⟩ : ∃ p, p = a0 * b0 := ⟨_, rfl⟩
  rw [← hp0] at m0
  have e0 : a0 * b0 = p0 := hp0.symm
  have m1 := mul_bd2 ha1 hb1
  obtain ⟨p1, hp1⟩ : ∃ p, p = a1 * b1 := ⟨_, rfl⟩
  rw [← hp1] at m1
  have e1 : a1 * b1 = p1 := hp1.symm
  have m2 := mul_bd2 ha2 hb2
  obtain ⟨p2, hp2⟩ : ∃ p, p = a2 * b2 := ⟨_, rfl⟩
  rw [← hp2] at m2
  have e2 : a2 * b2 = p2 := hp2.symm
  have HN := hide (fun (V : World) => c_l01Div (p0 + p1 + p2) 1000000 V (by omega) (by omega))
  have HD := hide (show dotZ ⟨a0, a1, a2⟩ ⟨b0, b1, b2⟩ = divR (p0 + p1 + p2) 1000000 by rw [hp0, hp1, hp2]; rfl)
  simp only [V3.val]
  clear hp0 hp1 hp2
  go_enter Tryz.func180, Tryz.ntmps180
  go_wp2_with fail
  have HX := hide (show IsX w ((w.alloc (.cells #[.int .i64 a0, .int .i64 a1, .int .i64 a2] 29)).alloc (.cells #[.int .i64 b0, .int .i64 b1, .int .i64 b2] 29)) from ((IsX.refl w).alloc _).alloc _)
  generalize (w.alloc (.cells #[.int .i64 a0, .int .i64 a1, .int .i64 a2] 29)).alloc (.cells #[.int .i64 b0, .int .i64 b1, .int .i64 b2] 29) = W at *
  refine (HN.out _).mono ?_
  rintro e w1 ⟨rfl, rfl⟩
  go_wp2_with fail
  go_ret
  exact ⟨by rw [HD.out]; rfl, HX.out⟩

set_option maxHeartbeats 6400000 in
set_option maxRecDepth 100000 in
theorem c_lengthOf (a : V3) (w : World) (ha : a.in_ 2300000) : Calls Tryz.prog 135 #[a.val] w fun e w' => e = .returned (.int .i64 (lenZ a)) ∧ IsX w w' := by
  obtain ⟨a0, a1, a2⟩ := a
  obtain ⟨ha0, ha1, ha2⟩ := ha
  simp only at ha0 ha1 ha2
  have m0 := sq_bd ha0
  obtain ⟨p0, hp0⟩ : ∃ p, p = a0 * a0 := ⟨_, rfl⟩
  rw [← hp0] at m0
  have e0 : a0 * a0 = p0 := hp0.symm
  have m1 := sq_bd ha1
  obtain ⟨p1, hp1⟩ : ∃ p, p = a1 * a1 := ⟨_, rfl⟩
  rw [← hp1] at m1
  have e1 : a1 * a1 = p1 := hp1.symm
  have m2 := sq_bd ha2
  obtain ⟨p2, hp2⟩ : ∃ p, p = a2 * a2 := ⟨_, rfl⟩
  rw [← hp2] at m2
  have e2 : a2 * a2 = p2 := hp2.symm
  have HN := hide (fun (V : World) => c_RootOf (p0 + p1 + p2) V (by omega) (by omega))
  have HD := hide (show lenZ ⟨a0, a1, a2⟩ = rootZ (p0 + p1 + p2) by rw [hp0, hp1, hp2]; rfl)
  simp only [V3.val]
  clear hp0 hp1 hp2
  go_enter Tryz.func135, Tryz.ntmps135
  go_wp2_with fail
  have HX := hide (show IsX w (w.alloc (.cells #[.int .i64 a0, .int .i64 a1, .int .i64 a2] 29)) from (IsX.refl w).alloc _)
  generalize w.alloc (.cells #[.int .i64 a0, .int .i64 a1, .int .i64 a2] 29) = W at *
  refine (HN.out _).mono ?_
  rintro e w1 ⟨rfl, rfl⟩
  go_wp2_with fail
  go_ret
  exact ⟨by rw [HD.out]; rfl, HX.out⟩

set_option maxHeartbeats 6400000 in
set_option maxRecDepth 100000 in
theorem c_l04Length (a : V3) (w : World) (ha : a.in_ 2300000) : Calls Tryz.prog 154 #[a.val] w fun e w' => e = .returned (.int .i64 (lenZ a)) ∧ IsX w w' := by
  obtain ⟨a0, a1, a2⟩ := a
  obtain ⟨ha0, ha1, ha2⟩ := ha
  simp only at ha0 ha1 ha2
  have m0 := sq_bd ha0
  obtain ⟨p0, hp0⟩ : ∃ p, p = a0 * a0 := ⟨_, rfl⟩
  rw [← hp0] at m0
  have e0 : a0 * a0 = p0 := hp0.symm
  have m1 := sq_bd ha1
  obtain ⟨p1, hp1⟩ : ∃ p, p = a1 * a1 := ⟨_, rfl⟩
  rw [← hp1] at m1
  have e1 : a1 * a1 = p1 := hp1.symm
  have m2 := sq_bd ha2
  obtain ⟨p2, hp2⟩ : ∃ p, p = a2 * a2 := ⟨_, rfl⟩
  rw [← hp2] at m2
  have e2 : a2 * a2 = p2 := hp2.symm
  have HN := hide (fun (V : World) => c_l01Root (p0 + p1 + p2) V (by omega) (by omega))
  have HD := hide (show lenZ ⟨a0, a1, a2⟩ = rootZ (p0 + p1 + p2) by rw [hp0, hp1, hp2]; rfl)
  simp only [V3.val]
  clear hp0 hp1 hp2
  go_enter Tryz.func154, Tryz.ntmps154
  go_wp2_with fail
  have HX := hide (show IsX w (w.alloc (.cells #[.int .i64 a0, .int .i64 a1, .int .i64 a2] 29)) from (IsX.refl w).alloc _)
  generalize w.alloc (.cells #[.int .i64 a0, .int .i64 a1, .int .i64 a2] 29) = W at *
  refine (HN.out _).mono ?_
  rintro e w1 ⟨rfl, rfl⟩
  go_wp2_with fail
  go_ret
  exact ⟨by rw [HD.out]; rfl, HX.out⟩

set_option maxHeartbeats 6400000 in
set_option maxRecDepth 100000 in
theorem c_validComponent (a : Int) (w : World) (h : -2000000 ≤ a ∧ a ≤ 2000000) : Calls Tryz.prog 163 #[.int .i64 a] w fun e w' => e = .returned (.bool true) ∧ w = w' := by
  have HW := hide (fun V => cb (c_within a (-2000000) 2000000 V) (inB_true.2 h))
  go_enter Tryz.func163, Tryz.ntmps163
  go_wp2_with fail
  refine (HW.out _).mono ?_
  rintro e w1 ⟨rfl, rfl⟩
  go_wp2_with fail
  go_ret
  exact ⟨rfl, rfl⟩

set_option maxHeartbeats 6400000 in
set_option maxRecDepth 100000 in
theorem c_ValidVector (a : V3) (w : World) (ha : a.in_ 1070000) : Calls Tryz.prog 134 #[a.val] w fun e w' => e = .returned (.bool true) ∧ IsX w w' := by
  obtain ⟨a0, a1, a2⟩ := a
  obtain ⟨ha0, ha1, ha2⟩ := ha
  simp only at ha0 ha1 ha2
  have H0 := hide (fun V => c_validComponent a0 V (by omega))
  have H1 := hide (fun V => c_validComponent a1 V (by omega))
  have H2 := hide (fun V => c_validComponent a2 V (by omega))
  simp only [V3.val]
  go_enter Tryz.func134, Tryz.ntmps134
  go_wp2_with fail
  refine (H0.out _).mono ?_
  rintro e w1 ⟨rfl, rfl⟩
  go_wp2_with fail
  refine (H1.out _).mono ?_
  rintro e w1 ⟨rfl, rfl⟩
  go_wp2_with fail
  refine (H2.out _).mono ?_
  rintro e w1 ⟨rfl, rfl⟩
  go_wp2_with fail
  go_ret
  exact ⟨rfl, (IsX.refl w).alloc _⟩

end Go.Proofs.YtfcfgkkkepifhaaGreatDoor

/- DomeF -/
namespace Go.Proofs.YtfcfgkkkepifhaaGreatDoor
set_option linter.unusedVariables false
open Go.RowKit
def sepC (a b : V3) : Int := if a.isZ = true ∨ b.isZ = true then 6 else arcC (lenZ (crossZ a b)) (dotZ a b)
def AwayPost (sz : Int) (w : World) (e : Ending) (w' : World) : Prop := ∃ ok : Bool, e = .returned (.tuple #[.int .i64 sz, .bool ok]) ∧ IsX w w'
theorem isZ_all {a0 a1 a2 : Int} : (⟨a0, a1, a2⟩ : V3).isZ = true ↔ a0 = 0 ∧ a1 = 0 ∧ a2 = 0 := by simp [V3.isZ, and_assoc]

set_option maxHeartbeats 6400000 in
set_option maxRecDepth 100000 in
theorem c_Separation (a b : V3) (w : World) (ha : a.in_ 1070000) (hb : b.in_ 1070000) (HTAB : ∀ W, IsX w W → sinTab W) : Calls Tryz.prog 102 #[a.val, b.val] w fun e w' => e = .returned (.tuple #[.int .i64 (sepZ a b), .int .i64 (sepC a b)]) ∧ IsX w w' := by
  have HVA := hide (fun V => c_ValidVector a V ha)
  have HVB := hide (fun V => c_ValidVector b V hb)
  obtain ⟨a0, a1, a2⟩ := a
  obtain ⟨b0, b1, b2⟩ := b
  have hcb := crossZ_bd ha hb
  have hdb := dotZ_bd ha hb
  have hlb := lenZ_bd hcb
  have HCR := hide (fun V => c_crossOf ⟨a0, a1, a2⟩ ⟨b0, b1, b2⟩ V ha hb)
  have HLE := hide (fun V => c_lengthOf (crossZ ⟨a0, a1, a2⟩ ⟨b0, b1, b2⟩) V hcb)
  have HDO := hide (fun V => c_dotOf ⟨a0, a1, a2⟩ ⟨b0, b1, b2⟩ V ha hb)
  have HAR := hide (fun V (hV : IsX w V) => c_ArcTangent (lenZ (crossZ ⟨a0, a1, a2⟩ ⟨b0, b1, b2⟩)) (dotZ ⟨a0, a1, a2⟩ ⟨b0, b1, b2⟩) V (by unfold smallI; omega) (by unfold smallI; omega) (fun U hU => HTAB U (hV.trans hU)))
  obtain ⟨t, ht⟩ : ∃ t : Bool, t = ((⟨a0, a1, a2⟩ : V3).isZ || (⟨b0, b1, b2⟩ : V3).isZ) := ⟨_, rfl⟩
  have HT := hide ht
  have HS1 := hide (show t = true → sepZ ⟨a0, a1, a2⟩ ⟨b0, b1, b2⟩ = 0 ∧ sepC ⟨a0, a1, a2⟩ ⟨b0, b1, b2⟩ = 6 from fun h => by
    rw [ht, Bool.or_eq_true] at h
    constructor
    · unfold sepZ; rw [if_pos (by rcases h with h | h; exact .inl h; exact .inr (.inl h))]
    · unfold sepC; rw [if_pos h])
  have HS0 := hide (show t = false → sepZ ⟨a0, a1, a2⟩ ⟨b0, b1, b2⟩ = arcZ (lenZ (crossZ ⟨a0, a1, a2⟩ ⟨b0, b1, b2⟩)) (dotZ ⟨a0, a1, a2⟩ ⟨b0, b1, b2⟩) ∧ sepC ⟨a0, a1, a2⟩ ⟨b0, b1, b2⟩ = arcC (lenZ (crossZ ⟨a0, a1, a2⟩ ⟨b0, b1, b2⟩)) (dotZ ⟨a0, a1, a2⟩ ⟨b0, b1, b2⟩) from fun h => by
    rw [ht, Bool.or_eq_false_iff] at h
    constructor
    · unfold sepZ
      split
      · rename_i hc
        rcases hc with hc | hc | hc
        · rw [h.1] at hc; cases hc
        · rw [h.2] at hc; cases hc
        · rw [hc.1, hc.2, arcZ_zero]
      · rfl
    · unfold sepC; rw [if_neg (by rw [h.1, h.2]; simp)])
  generalize sepZ ⟨a0, a1, a2⟩ ⟨b0, b1, b2⟩ = sz at *
  generalize sepC ⟨a0, a1, a2⟩ ⟨b0, b1, b2⟩ = sc at *
  generalize crossZ ⟨a0, a1, a2⟩ ⟨b0, b1, b2⟩ = cz at *
  generalize dotZ ⟨a0, a1, a2⟩ ⟨b0, b1, b2⟩ = dz at *
  generalize lenZ cz = lz at *
  obtain ⟨c0, c1, c2⟩ := cz
  simp only [V3.val] at HVA HVB HCR HLE HDO ⊢
  clear ht hcb hdb hlb ha hb HTAB
  obtain ⟨W0, hW0⟩ : ∃ W, W = ((w.alloc (.cells #[.int .i64 a0, .int .i64 a1, .int .i64 a2] 29)).alloc (.cells #[.int .i64 b0, .int .i64 b1, .int .i64 b2] 29)) := ⟨_, rfl⟩
  obtain ⟨BA, hBA⟩ : ∃ B, B = w.heap.size := ⟨_, rfl⟩
  have HBA := hide (show Blk W0 BA 29 #[.int .i64 a0, .int .i64 a1, .int .i64 a2] from by rw [hW0, hBA]; have h := ((Blk.new w 29 #[.int .i64 a0, .int .i64 a1, .int .i64 a2]).alloc (.cells #[.int .i64 b0, .int .i64 b1, .int .i64 b2] 29)); simpa using h)
  obtain ⟨BB, hBB⟩ : ∃ B, B = BA + 1 := ⟨_, rfl⟩
  have HBB := hide (show Blk W0 BB 29 #[.int .i64 b0, .int .i64 b1, .int .i64 b2] from by rw [hW0, hBB, hBA]; have h := (Blk.new (w.alloc (.cells #[.int .i64 a0, .int .i64 a1, .int .i64 a2] 29)) 29 #[.int .i64 b0, .int .i64 b1, .int .i64 b2]); simpa using h)
  have HX0 := hide (show IsX w W0 from by rw [hW0]; exact ((IsX.refl w).alloc _).alloc _)
  go_enter Tryz.func102, Tryz.ntmps102
  go_wp2_with fail
  (try simp only [World.size_alloc, Nat.add_assoc, Nat.reduceAdd])
  rw [← hW0]
  simp only [← hBA, ← hBB]
  clear hW0 hBA hBB
  refine (HVA.out _).mono ?_
  rintro e w1 ⟨rfl, hx⟩
  have HX1 := hide (HX0.out.trans hx)
  replace HBA := hide (HBA.out.x hx)
  replace HBB := hide (HBB.out.x hx)
  clear hx
  have q0 := HBB.out.cell 0
  have q1 := HBB.out.cell 1
  have q2 := HBB.out.cell 2
  simp at q0 q1 q2
  have ql := HBB.out.lt
  go_wp2_with fail
  clear q0 q1 q2 ql
  refine (HVB.out _).mono ?_
  rintro e w2 ⟨rfl, hx⟩
  have HX2 := hide (HX1.out.trans hx)
  replace HBA := hide (HBA.out.x hx)
  replace HBB := hide (HBB.out.x hx)
  clear hx
  have q0 := HBA.out.cell 0
  have q1 := HBA.out.cell 1
  have q2 := HBA.out.cell 2
  simp at q0 q1 q2
  have ql := HBA.out.lt
  have r0 := HBB.out.cell 0
  have r1 := HBB.out.cell 1
  have r2 := HBB.out.cell 2
  simp at r0 r1 r2
  have rl := HBB.out.lt
  go_upto_region 3 with fail
  go_cut [21] from 14 to 21 (fun s wc => s = .bool t ∧ wc = w2)
  case first =>
    by_cases ha0 : a0 = 0
    · subst ha0
      by_cases ha1 : a1 = 0
      · subst ha1
        by_cases ha2 : a2 = 0
        · subst ha2
          go_wp2_with fail
          all_goals
            go_meet
            exact ⟨congrArg Value.bool (by rw [HT.out]; simp [V3.isZ]), rfl⟩
        · by_cases hb0 : b0 = 0
          · subst hb0
            by_cases hb1 : b1 = 0
            · subst hb1
              by_cases hb2 : b2 = 0
              · subst hb2
                go_wp2_with fail
                all_goals
                  go_meet
                  exact ⟨congrArg Value.bool (by rw [HT.out]; simp [V3.isZ, ha2]), rfl⟩
              · go_wp2_with fail
                all_goals
                  go_meet
                  exact ⟨congrArg Value.bool (by rw [HT.out]; simp [V3.isZ, ha2, hb2]), rfl⟩
            · go_wp2_with fail
              all_goals
                go_meet
                exact ⟨congrArg Value.bool (by rw [HT.out]; simp [V3.isZ, ha2, hb1]), rfl⟩
          · go_wp2_with fail
            all_goals
              go_meet
              exact ⟨congrArg Value.bool (by rw [HT.out]; simp [V3.isZ, ha2, hb0]), rfl⟩
      · by_cases hb0 : b0 = 0
        · subst hb0
          by_cases hb1 : b1 = 0
          · subst hb1
            by_cases hb2 : b2 = 0
            · subst hb2
              go_wp2_with fail
              all_goals
                go_meet
                exact ⟨congrArg Value.bool (by rw [HT.out]; simp [V3.isZ, ha1]), rfl⟩
            · go_wp2_with fail
              all_goals
                go_meet
                exact ⟨congrArg Value.bool (by rw [HT.out]; simp [V3.isZ, ha1, hb2]), rfl⟩
          · go_wp2_with fail
            all_goals
              go_meet
              exact ⟨congrArg Value.bool (by rw [HT.out]; simp [V3.isZ, ha1, hb1]), rfl⟩
        · go_wp2_with fail
          all_goals
            go_meet
            exact ⟨congrArg Value.bool (by rw [HT.out]; simp [V3.isZ, ha1, hb0]), rfl⟩
    · by_cases hb0 : b0 = 0
      · subst hb0
        by_cases hb1 : b1 = 0
        · subst hb1
          by_cases hb2 : b2 = 0
          · subst hb2
            go_wp2_with fail
            all_goals
              go_meet
              exact ⟨congrArg Value.bool (by rw [HT.out]; simp [V3.isZ, ha0]), rfl⟩
          · go_wp2_with fail
            all_goals
              go_meet
              exact ⟨congrArg Value.bool (by rw [HT.out]; simp [V3.isZ, ha0, hb2]), rfl⟩
        · go_wp2_with fail
          all_goals
            go_meet
            exact ⟨congrArg Value.bool (by rw [HT.out]; simp [V3.isZ, ha0, hb1]), rfl⟩
      · go_wp2_with fail
        all_goals
          go_meet
          exact ⟨congrArg Value.bool (by rw [HT.out]; simp [V3.isZ, ha0, hb0]), rfl⟩
  obtain ⟨rfl, rfl⟩ := hcut
  cases t
  rotate_left
  · obtain ⟨s1, s2⟩ := HS1.out rfl
    subst s1 s2
    go_wp2_with fail
    go_ret2
    exact ⟨rfl, HX2.out⟩
  · obtain ⟨s1, s2⟩ := HS0.out rfl
    subst s1 s2
    go_wp2_with fail
    refine wp_region_x (by kernel_rfl) (by kernel_rfl) ?_
    repeat (go_big_quiet_step (fail))
    go_big_quiet_step ((go_at_call 136; exact call_x (HCR.out _)))
    go_big_quiet_step ((go_at_call 135; exact call_x (HLE.out _)))
    repeat (go_big_quiet_step (fail))
    go_big_quiet_step ((go_at_call 137; exact call_x (HDO.out _)))
    repeat (go_big_quiet_step (fail))
    go_big_quiet_step ((go_at_call 131; exact call_x (HAR.out _ (HX2.out.trans ⟨_, rfl⟩))))
    repeat (go_big_quiet_step (fail))
    refine wpQuiet_nil ?_
    rintro _ ⟨q, rfl⟩
    go_wp2_with fail
    go_ret2
    exact ⟨rfl, HX2.out.trans ⟨q, rfl⟩⟩

set_option maxHeartbeats 6400000 in
set_option maxRecDepth 100000 in
theorem c_l04Away (a b : V3) (w : World) (ha : a.in_ 1070000) (hb : b.in_ 1070000) : Calls Tryz.prog 155 #[a.val, b.val] w (AwayPost (sepZ a b) w) := by
  obtain ⟨a0, a1, a2⟩ := a
  obtain ⟨b0, b1, b2⟩ := b
  have hcb := crossZ_bd ha hb
  have hdb := dotZ_bd ha hb
  have hlb := lenZ_bd hcb
  have HCR := hide (fun V => c_l04Cross ⟨a0, a1, a2⟩ ⟨b0, b1, b2⟩ V ha hb)
  have HLE := hide (fun V => c_l04Length (crossZ ⟨a0, a1, a2⟩ ⟨b0, b1, b2⟩) V hcb)
  have HDO := hide (fun V => c_l04Dot ⟨a0, a1, a2⟩ ⟨b0, b1, b2⟩ V ha hb)
  have HAR := hide (fun (V : World) => c_l02Arc (lenZ (crossZ ⟨a0, a1, a2⟩ ⟨b0, b1, b2⟩)) (dotZ ⟨a0, a1, a2⟩ ⟨b0, b1, b2⟩) V (by unfold smallI; omega) (by unfold smallI; omega))
  have HSZ := hide (show sepZ ⟨a0, a1, a2⟩ ⟨b0, b1, b2⟩ = if (⟨a0, a1, a2⟩ : V3).isZ = true ∨ (⟨b0, b1, b2⟩ : V3).isZ = true ∨ (lenZ (crossZ ⟨a0, a1, a2⟩ ⟨b0, b1, b2⟩) = 0 ∧ dotZ ⟨a0, a1, a2⟩ ⟨b0, b1, b2⟩ = 0) then 0 else arcZ (lenZ (crossZ ⟨a0, a1, a2⟩ ⟨b0, b1, b2⟩)) (dotZ ⟨a0, a1, a2⟩ ⟨b0, b1, b2⟩) from rfl)
  generalize sepZ ⟨a0, a1, a2⟩ ⟨b0, b1, b2⟩ = sz at *
  generalize crossZ ⟨a0, a1, a2⟩ ⟨b0, b1, b2⟩ = cz at *
  generalize dotZ ⟨a0, a1, a2⟩ ⟨b0, b1, b2⟩ = dz at *
  generalize lenZ cz = lz at *
  obtain ⟨t, ht⟩ : ∃ t : Bool, t = ((⟨a0, a1, a2⟩ : V3).isZ || (⟨b0, b1, b2⟩ : V3).isZ || (decide (lz = 0) && decide (dz = 0))) := ⟨_, rfl⟩
  have HT := hide ht
  have HS1 := hide (show t = true → sz = 0 from fun h => by
    rw [HSZ.out]
    rw [ht, Bool.or_eq_true, Bool.or_eq_true, Bool.and_eq_true, decide_eq_true_eq, decide_eq_true_eq] at h
    rw [if_pos (by rcases h with (h | h) | h; exact .inl h; exact .inr (.inl h); exact .inr (.inr h))])
  have HS0 := hide (show t = false → sz = arcZ lz dz from fun h => by
    rw [HSZ.out]
    rw [ht, Bool.or_eq_false_iff, Bool.or_eq_false_iff, Bool.and_eq_false_iff, decide_eq_false_iff_not, decide_eq_false_iff_not] at h
    rw [if_neg]
    rintro (hc | hc | hc)
    · rw [h.1.1] at hc; cases hc
    · rw [h.1.2] at hc; cases hc
    · rcases h.2 with h3 | h3
      · exact h3 hc.1
      · exact h3 hc.2)
  obtain ⟨c0, c1, c2⟩ := cz
  simp only [V3.val] at HCR HLE HDO ⊢
  clear ht hcb hdb hlb ha hb HSZ
  obtain ⟨W0, hW0⟩ : ∃ W, W = ((w.alloc (.cells #[.int .i64 a0, .int .i64 a1, .int .i64 a2] 29)).alloc (.cells #[.int .i64 b0, .int .i64 b1, .int .i64 b2] 29)) := ⟨_, rfl⟩
  obtain ⟨BA, hBA⟩ : ∃ B, B = w.heap.size := ⟨_, rfl⟩
  have HBA := hide (show Blk W0 BA 29 #[.int .i64 a0, .int .i64 a1, .int .i64 a2] from by rw [hW0, hBA]; have h := ((Blk.new w 29 #[.int .i64 a0, .int .i64 a1, .int .i64 a2]).alloc (.cells #[.int .i64 b0, .int .i64 b1, .int .i64 b2] 29)); simpa using h)
  obtain ⟨BB, hBB⟩ : ∃ B, B = BA + 1 := ⟨_, rfl⟩
  have HBB := hide (show Blk W0 BB 29 #[.int .i64 b0, .int .i64 b1, .int .i64 b2] from by rw [hW0, hBB, hBA]; have h := (Blk.new (w.alloc (.cells #[.int .i64 a0, .int .i64 a1, .int .i64 a2] 29)) 29 #[.int .i64 b0, .int .i64 b1, .int .i64 b2]); simpa using h)
  have HX0 := hide (show IsX w W0 from by rw [hW0]; exact ((IsX.refl w).alloc _).alloc _)
  go_enter Tryz.func155, Tryz.ntmps155
  go_wp2_with fail
  (try simp only [World.size_alloc, Nat.add_assoc, Nat.reduceAdd])
  rw [← hW0]
  simp only [← hBA, ← hBB]
  clear hW0 hBA hBB
  refine (HCR.out _).mono ?_
  rintro e w1 ⟨rfl, hx⟩
  have HX1 := hide (HX0.out.trans hx)
  replace HBA := hide (HBA.out.x hx)
  replace HBB := hide (HBB.out.x hx)
  clear hx
  go_wp2_with fail
  refine (HLE.out _).mono ?_
  rintro e w2 ⟨rfl, hx⟩
  have HX2 := hide (HX1.out.trans hx)
  replace HBA := hide (HBA.out.x hx)
  replace HBB := hide (HBB.out.x hx)
  clear hx
  have q0 := HBA.out.cell 0
  have q1 := HBA.out.cell 1
  have q2 := HBA.out.cell 2
  simp at q0 q1 q2
  have ql := HBA.out.lt
  have r0 := HBB.out.cell 0
  have r1 := HBB.out.cell 1
  have r2 := HBB.out.cell 2
  simp at r0 r1 r2
  have rl := HBB.out.lt
  go_wp2_with fail
  clear q0 q1 q2 ql
  clear r0 r1 r2 rl
  refine (HDO.out _).mono ?_
  rintro e w3 ⟨rfl, hx⟩
  have HX3 := hide (HX2.out.trans hx)
  replace HBA := hide (HBA.out.x hx)
  replace HBB := hide (HBB.out.x hx)
  clear hx
  have q0 := HBA.out.cell 0
  have q1 := HBA.out.cell 1
  have q2 := HBA.out.cell 2
  simp at q0 q1 q2
  have ql := HBA.out.lt
  have r0 := HBB.out.cell 0
  have r1 := HBB.out.cell 1
  have r2 := HBB.out.cell 2
  simp at r0 r1 r2
  have rl := HBB.out.lt
  go_upto_region 3 with fail
  go_cut [30] from 15 to 30 (fun s wc => s = .bool t ∧ wc = w3)
  case first =>
    by_cases ha0 : a0 = 0
    · subst ha0
      by_cases ha1 : a1 = 0
      · subst ha1
        by_cases ha2 : a2 = 0
        · subst ha2
          go_wp2_with fail
          all_goals
            go_meet
            exact ⟨congrArg Value.bool (by rw [HT.out]; simp [V3.isZ]), rfl⟩
        · by_cases hb0 : b0 = 0
          · subst hb0
            by_cases hb1 : b1 = 0
            · subst hb1
              by_cases hb2 : b2 = 0
              · subst hb2
                go_wp2_with fail
                all_goals
                  go_meet
                  exact ⟨congrArg Value.bool (by rw [HT.out]; simp [V3.isZ, ha2]), rfl⟩
              · by_cases hlz : lz = 0
                · subst hlz
                  by_cases hdz : dz = 0
                  · subst hdz
                    go_wp2_with fail
                    all_goals
                      go_meet
                      exact ⟨congrArg Value.bool (by rw [HT.out]; simp [V3.isZ, ha2, hb2]), rfl⟩
                  · go_wp2_with fail
                    all_goals
                      go_meet
                      exact ⟨congrArg Value.bool (by rw [HT.out]; simp [V3.isZ, ha2, hb2, hdz]), rfl⟩
                · go_wp2_with fail
                  all_goals
                    go_meet
                    exact ⟨congrArg Value.bool (by rw [HT.out]; simp [V3.isZ, ha2, hb2, hlz]), rfl⟩
            · by_cases hlz : lz = 0
              · subst hlz
                by_cases hdz : dz = 0
                · subst hdz
                  go_wp2_with fail
                  all_goals
                    go_meet
                    exact ⟨congrArg Value.bool (by rw [HT.out]; simp [V3.isZ, ha2, hb1]), rfl⟩
                · go_wp2_with fail
                  all_goals
                    go_meet
                    exact ⟨congrArg Value.bool (by rw [HT.out]; simp [V3.isZ, ha2, hb1, hdz]), rfl⟩
              · go_wp2_with fail
                all_goals
                  go_meet
                  exact ⟨congrArg Value.bool (by rw [HT.out]; simp [V3.isZ, ha2, hb1, hlz]), rfl⟩
          · by_cases hlz : lz = 0
            · subst hlz
              by_cases hdz : dz = 0
              · subst hdz
                go_wp2_with fail
                all_goals
                  go_meet
                  exact ⟨congrArg Value.bool (by rw [HT.out]; simp [V3.isZ, ha2, hb0]), rfl⟩
              · go_wp2_with fail
                all_goals
                  go_meet
                  exact ⟨congrArg Value.bool (by rw [HT.out]; simp [V3.isZ, ha2, hb0, hdz]), rfl⟩
            · go_wp2_with fail
              all_goals
                go_meet
                exact ⟨congrArg Value.bool (by rw [HT.out]; simp [V3.isZ, ha2, hb0, hlz]), rfl⟩
      · by_cases hb0 : b0 = 0
        · subst hb0
          by_cases hb1 : b1 = 0
          · subst hb1
            by_cases hb2 : b2 = 0
            · subst hb2
              go_wp2_with fail
              all_goals
                go_meet
                exact ⟨congrArg Value.bool (by rw [HT.out]; simp [V3.isZ, ha1]), rfl⟩
            · by_cases hlz : lz = 0
              · subst hlz
                by_cases hdz : dz = 0
                · subst hdz
                  go_wp2_with fail
                  all_goals
                    go_meet
                    exact ⟨congrArg Value.bool (by rw [HT.out]; simp [V3.isZ, ha1, hb2]), rfl⟩
                · go_wp2_with fail
                  all_goals
                    go_meet
                    exact ⟨congrArg Value.bool (by rw [HT.out]; simp [V3.isZ, ha1, hb2, hdz]), rfl⟩
              · go_wp2_with fail
                all_goals
                  go_meet
                  exact ⟨congrArg Value.bool (by rw [HT.out]; simp [V3.isZ, ha1, hb2, hlz]), rfl⟩
          · by_cases hlz : lz = 0
            · subst hlz
              by_cases hdz : dz = 0
              · subst hdz
                go_wp2_with fail
                all_goals
                  go_meet
                  exact ⟨congrArg Value.bool (by rw [HT.out]; simp [V3.isZ, ha1, hb1]), rfl⟩
              · go_wp2_with fail
                all_goals
                  go_meet
                  exact ⟨congrArg Value.bool (by rw [HT.out]; simp [V3.isZ, ha1, hb1, hdz]), rfl⟩
            · go_wp2_with fail
              all_goals
                go_meet
                exact ⟨congrArg Value.bool (by rw [HT.out]; simp [V3.isZ, ha1, hb1, hlz]), rfl⟩
        · by_cases hlz : lz = 0
          · subst hlz
            by_cases hdz : dz = 0
            · subst hdz
              go_wp2_with fail
              all_goals
                go_meet
                exact ⟨congrArg Value.bool (by rw [HT.out]; simp [V3.isZ, ha1, hb0]), rfl⟩
            · go_wp2_with fail
              all_goals
                go_meet
                exact ⟨congrArg Value.bool (by rw [HT.out]; simp [V3.isZ, ha1, hb0, hdz]), rfl⟩
          · go_wp2_with fail
            all_goals
              go_meet
              exact ⟨congrArg Value.bool (by rw [HT.out]; simp [V3.isZ, ha1, hb0, hlz]), rfl⟩
    · by_cases hb0 : b0 = 0
      · subst hb0
        by_cases hb1 : b1 = 0
        · subst hb1
          by_cases hb2 : b2 = 0
          · subst hb2
            go_wp2_with fail
            all_goals
              go_meet
              exact ⟨congrArg Value.bool (by rw [HT.out]; simp [V3.isZ, ha0]), rfl⟩
          · by_cases hlz : lz = 0
            · subst hlz
              by_cases hdz : dz = 0
              · subst hdz
                go_wp2_with fail
                all_goals
                  go_meet
                  exact ⟨congrArg Value.bool (by rw [HT.out]; simp [V3.isZ, ha0, hb2]), rfl⟩
              · go_wp2_with fail
                all_goals
                  go_meet
                  exact ⟨congrArg Value.bool (by rw [HT.out]; simp [V3.isZ, ha0, hb2, hdz]), rfl⟩
            · go_wp2_with fail
              all_goals
                go_meet
                exact ⟨congrArg Value.bool (by rw [HT.out]; simp [V3.isZ, ha0, hb2, hlz]), rfl⟩
        · by_cases hlz : lz = 0
          · subst hlz
            by_cases hdz : dz = 0
            · subst hdz
              go_wp2_with fail
              all_goals
                go_meet
                exact ⟨congrArg Value.bool (by rw [HT.out]; simp [V3.isZ, ha0, hb1]), rfl⟩
            · go_wp2_with fail
              all_goals
                go_meet
                exact ⟨congrArg Value.bool (by rw [HT.out]; simp [V3.isZ, ha0, hb1, hdz]), rfl⟩
          · go_wp2_with fail
            all_goals
              go_meet
              exact ⟨congrArg Value.bool (by rw [HT.out]; simp [V3.isZ, ha0, hb1, hlz]), rfl⟩
      · by_cases hlz : lz = 0
        · subst hlz
          by_cases hdz : dz = 0
          · subst hdz
            go_wp2_with fail
            all_goals
              go_meet
              exact ⟨congrArg Value.bool (by rw [HT.out]; simp [V3.isZ, ha0, hb0]), rfl⟩
          · go_wp2_with fail
            all_goals
              go_meet
              exact ⟨congrArg Value.bool (by rw [HT.out]; simp [V3.isZ, ha0, hb0, hdz]), rfl⟩
        · go_wp2_with fail
          all_goals
            go_meet
            exact ⟨congrArg Value.bool (by rw [HT.out]; simp [V3.isZ, ha0, hb0, hlz]), rfl⟩
  obtain ⟨rfl, rfl⟩ := hcut
  cases t
  rotate_left
  · have s1 := HS1.out rfl
    subst s1
    go_wp2_with fail
    go_ret2
    exact ⟨false, rfl, HX3.out⟩
  · have s1 := HS0.out rfl
    subst s1
    go_wp2_with fail
    refine (HAR.out _).mono ?_
    rintro e w4 ⟨rfl, hx⟩
    go_wp2_with fail
    go_ret2
    exact ⟨true, rfl, HX3.out.trans hx⟩

set_option maxHeartbeats 6400000 in
set_option maxRecDepth 100000 in
theorem c_l09Apart (a1 h1 a2 h2 : Int) (w : World) (ha1 : angI a1) (hh1 : angI h1) (ha2 : angI a2) (hh2 : angI h2) : Calls Tryz.prog 128 #[.int .i64 a1, .int .i64 h1, .int .i64 a2, .int .i64 h2] w fun e w' => e = .returned (.int .i64 (sepZ (dirZ a1 h1) (dirZ a2 h2))) ∧ IsX w w' := by
  have H1 := hide (fun V => c_l04Direction a1 h1 V ha1 hh1)
  have H2 := hide (fun V => c_l04Direction a2 h2 V ha2 hh2)
  have H3 := hide (fun V => c_l04Away (dirZ a1 h1) (dirZ a2 h2) V (dirZ_bd _ _) (dirZ_bd _ _))
  generalize sepZ (dirZ a1 h1) (dirZ a2 h2) = sz at *
  generalize (dirZ a1 h1).val = v1 at *
  generalize (dirZ a2 h2).val = v2 at *
  clear ha1 hh1 ha2 hh2
  go_enter Tryz.func128, Tryz.ntmps128
  go_wp2_with fail
  refine (H1.out _).mono ?_
  rintro e w1 ⟨rfl, hx1⟩
  have HX1 := hide hx1
  clear hx1
  go_wp2_with fail
  refine (H2.out _).mono ?_
  rintro e w2 ⟨rfl, hx2⟩
  have HX2 := hide (HX1.out.trans hx2)
  clear hx2
  go_wp2_with fail
  refine (H3.out _).mono ?_
  rintro e w3 ⟨ok, rfl, hx3⟩
  have HX3 := hide (HX2.out.trans hx3)
  clear hx3
  go_wp2_with fail
  go_ret
  exact ⟨rfl, HX3.out⟩

end Go.Proofs.YtfcfgkkkepifhaaGreatDoor
