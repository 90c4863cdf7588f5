/- Vectors of domes: directions, products, lengths, separations: what the reference and the program compute. Conditions: numbers as told with each; the table of sines as the program's text lays it. -/
import Derived.Test.YtadmpefbpklibaaDoorDomeB
import Derived.Test.YtadmpefbpklibaaDoorTail
import Derived.Test.YtadmpefbpklibaaDoorOwn
namespace Go.Proofs.YtadmpefbpklibaaDoor
set_option linter.unusedVariables false
open Go.RowKit

def angI (a : Int) : Prop := -1000000000 ≤ a ∧ a ≤ 1000000000

set_option maxHeartbeats 6400000 in
set_option maxRecDepth 100000 in
theorem c_directionOf (lon lat : Int) (w : World) (hlo : angI lon) (hla : angI lat) (HTAB : ∀ W, IsX w W → sinTab W) : Calls Tryd.prog 71 #[.int .i64 lon, .int .i64 lat] w fun e w' => e = .returned (dirZ lon lat).val ∧ IsX w w' := by
  unfold angI at hlo hla
  have HCA := hide (fun V (hV : IsX w V) => c_CosineOf lat V (HTAB V hV) (by omega))
  have HCO := hide (fun V (hV : IsX w V) => c_CosineOf lon V (HTAB V hV) (by omega))
  have HSO := hide (fun V (hV : IsX w V) => c_SineOf lon V (HTAB V hV) (by omega))
  have HSA := hide (fun V (hV : IsX w V) => c_SineOf lat V (HTAB V hV) (by omega))
  rw [show cosA (lat % 360000) = cosM lat from rfl] at HCA
  rw [show cosA (lon % 360000) = cosM lon from rfl] at HCO
  rw [show sinA (lon % 360000) = sinM lon from rfl] at HSO
  rw [show sinA (lat % 360000) = sinM lat from rfl] at HSA
  have m1 := mul_bd2 (cosM_bd lat) (cosM_bd lon)
  have m2 := mul_bd2 (cosM_bd lat) (sinM_bd lon)
  obtain ⟨p1, hp1⟩ : ∃ p1, p1 = cosM lat * cosM lon := ⟨_, rfl⟩
  obtain ⟨p2, hp2⟩ : ∃ p2, p2 = cosM lat * sinM lon := ⟨_, rfl⟩
  have HD := hide (show (dirZ lon lat).val = .agg #[.int .i64 (divR p1 1000000), .int .i64 (divR p2 1000000), .int .i64 (sinM lat)] by rw [hp1, hp2]; rfl)
  rw [← hp1] at m1
  rw [← hp2] at m2
  have e1 : cosM lat * cosM lon = p1 := hp1.symm
  have e2 : cosM lat * sinM lon = p2 := hp2.symm
  have HN1 := hide (fun (V : World) => c_nearest_1000000 p1 V (by omega))
  have HN2 := hide (fun (V : World) => c_nearest_1000000 p2 V (by omega))
  generalize cosM lat = ca at *
  generalize cosM lon = co at *
  generalize sinM lon = so at *
  generalize sinM lat = sa at *
  clear hp1 hp2 HTAB
  go_enter Tryd.func71, Tryd.ntmps71
  go_wp2_with fail
  obtain ⟨RB, hRB⟩ : ∃ RB, RB = w.heap.size := ⟨_, rfl⟩
  have HRB : Hid (w.heap.size ≤ RB) := hide (by omega)
  obtain ⟨w0, hw0⟩ : ∃ w0, w0 = w.alloc (.cells #[.int .i64 0, .int .i64 0, .int .i64 0] 48) := ⟨_, rfl⟩
  have HB := hide (show Blk w0 RB 48 #[.int .i64 0, .int .i64 0, .int .i64 0] from by rw [hw0, hRB]; exact Blk.new _ _ _)
  have HX0 := hide (show IsX w w0 from hw0 ▸ (IsX.refl w).alloc _)
  rw [← hRB, ← hw0]
  clear hRB hw0
  refine (HCA.out _ HX0.out).mono ?_
  rintro e w1 ⟨rfl, hx⟩
  have HX1 := hide (HX0.out.trans hx)
  replace HB := hide (HB.out.x hx)
  clear hx
  go_wp2_with fail
  refine (HCO.out _ HX1.out).mono ?_
  rintro e w2 ⟨rfl, hx⟩
  have HX2 := hide (HX1.out.trans hx)
  replace HB := hide (HB.out.x hx)
  clear hx
  go_wp2_with fail
  refine (HN1.out _).mono ?_
  rintro e w3 ⟨rfl, hx⟩
  have HX3 := hide (HX2.out.trans hx)
  replace HB := hide (HB.out.x hx)
  clear hx
  go_wp2_with fail
  refine (HSO.out _ HX3.out).mono ?_
  rintro e w4 ⟨rfl, hx⟩
  have HX4 := hide (HX3.out.trans hx)
  replace HB := hide (HB.out.x hx)
  clear hx
  go_wp2_with fail
  refine (HN2.out _).mono ?_
  rintro e w5 ⟨rfl, hx⟩
  have HX5 := hide (HX4.out.trans hx)
  replace HB := hide (HB.out.x hx)
  clear hx
  go_wp2_with fail
  refine (HSA.out _ HX5.out).mono ?_
  rintro e w6 ⟨rfl, hx⟩
  have HX6 := hide (HX5.out.trans hx)
  replace HB := hide (HB.out.x hx)
  clear hx
  have f0 := HB.out.cell 0
  have f1 := HB.out.cell 1
  have f2 := HB.out.cell 2
  have z0 := HB.out.frozen 0
  have z1 := HB.out.frozen 1
  have z2 := HB.out.frozen 2
  have hlt5 := HB.out.lt
  simp at f0 f1 f2
  go_wp2
  have hX6 : IsX w (((w6.setCell ⟨RB, 0, none⟩ (.int .i64 (divR p1 1000000))).setCell ⟨RB, 1, none⟩ (.int .i64 (divR p2 1000000))).setCell ⟨RB, 2, none⟩ (.int .i64 sa)) :=
    IsX.setCell (a := ⟨RB, 2, none⟩) (IsX.setCell (a := ⟨RB, 1, none⟩) (IsX.setCell (a := ⟨RB, 0, none⟩) HX6.out HRB.out _) HRB.out _) HRB.out _
  have hB6 := ((HB.out.set_ 0 (.int .i64 (divR p1 1000000))).set_ 1 (.int .i64 (divR p2 1000000))).set_ 2 (.int .i64 sa)
  clear f0 f1 f2 z0 z1 z2
  generalize ((w6.setCell ⟨RB, 0, none⟩ (.int .i64 (divR p1 1000000))).setCell ⟨RB, 1, none⟩ (.int .i64 (divR p2 1000000))).setCell ⟨RB, 2, none⟩ (.int .i64 sa) = V6 at *
  have r0 := hB6.cell 0
  have r1 := hB6.cell 1
  have r2 := hB6.cell 2
  simp at r0 r1 r2
  exact bodyPost_ret (v := .agg #[.int .i64 (divR p1 1000000), .int .i64 (divR p2 1000000), .int .i64 sa]) (by simp [results, Tryd.results71, go_sem, r0, r1, r2]) rfl ⟨by rw [HD.out], hX6⟩

set_option maxHeartbeats 6400000 in
set_option maxRecDepth 100000 in
theorem c_l04Direction (lon lat : Int) (w : World) (hlo : angI lon) (hla : angI lat) : Calls Tryd.prog 80 #[.int .i64 lon, .int .i64 lat] w fun e w' => e = .returned (dirZ lon lat).val ∧ IsX w w' := by
  unfold angI at hlo hla
  have HCA := hide (fun V (hV : IsX w V) => c_l02Cosine lat V (by omega))
  have HCO := hide (fun V (hV : IsX w V) => c_l02Cosine lon V (by omega))
  have HSO := hide (fun V (hV : IsX w V) => c_l02Sine lon V (by omega))
  have HSA := hide (fun V (hV : IsX w V) => c_l02Sine lat V (by omega))
  rw [show cosA (lat % 360000) = cosM lat from rfl] at HCA
  rw [show cosA (lon % 360000) = cosM lon from rfl] at HCO
  rw [show sinA (lon % 360000) = sinM lon from rfl] at HSO
  rw [show sinA (lat % 360000) = sinM lat from rfl] at HSA
  have m1 := mul_bd2 (cosM_bd lat) (cosM_bd lon)
  have m2 := mul_bd2 (cosM_bd lat) (sinM_bd lon)
  obtain ⟨p1, hp1⟩ : ∃ p1, p1 = cosM lat * cosM lon := ⟨_, rfl⟩
  obtain ⟨p2, hp2⟩ : ∃ p2, p2 = cosM lat * sinM lon := ⟨_, rfl⟩
  have HD := hide (show (dirZ lon lat).val = .agg #[.int .i64 (divR p1 1000000), .int .i64 (divR p2 1000000), .int .i64 (sinM lat)] by rw [hp1, hp2]; rfl)
  rw [← hp1] at m1
  rw [← hp2] at m2
  have e1 : cosM lat * cosM lon = p1 := hp1.symm
  have e2 : cosM lat * sinM lon = p2 := hp2.symm
  have HN1 := hide (fun (V : World) => c_l01Div p1 1000000 V (by omega) (by omega))
  have HN2 := hide (fun (V : World) => c_l01Div p2 1000000 V (by omega) (by omega))
  generalize cosM lat = ca at *
  generalize cosM lon = co at *
  generalize sinM lon = so at *
  generalize sinM lat = sa at *
  clear hp1 hp2
  go_enter Tryd.func80, Tryd.ntmps80
  go_wp2_with fail
  obtain ⟨RB, hRB⟩ : ∃ RB, RB = w.heap.size := ⟨_, rfl⟩
  have HRB : Hid (w.heap.size ≤ RB) := hide (by omega)
  obtain ⟨w0, hw0⟩ : ∃ w0, w0 = w.alloc (.cells #[.int .i64 0, .int .i64 0, .int .i64 0] 48) := ⟨_, rfl⟩
  have HB := hide (show Blk w0 RB 48 #[.int .i64 0, .int .i64 0, .int .i64 0] from by rw [hw0, hRB]; exact Blk.new _ _ _)
  have HX0 := hide (show IsX w w0 from hw0 ▸ (IsX.refl w).alloc _)
  rw [← hRB, ← hw0]
  clear hRB hw0
  refine (HCA.out _ HX0.out).mono ?_
  rintro e w1 ⟨rfl, hx⟩
  have HX1 := hide (HX0.out.trans hx)
  replace HB := hide (HB.out.x hx)
  clear hx
  go_wp2_with fail
  refine (HCO.out _ HX1.out).mono ?_
  rintro e w2 ⟨rfl, hx⟩
  have HX2 := hide (HX1.out.trans hx)
  replace HB := hide (HB.out.x hx)
  clear hx
  go_wp2_with fail
  refine (HN1.out _).mono ?_
  rintro e w3 ⟨rfl, rfl⟩
  go_wp2_with fail
  refine (HSO.out _ HX2.out).mono ?_
  rintro e w4 ⟨rfl, hx⟩
  have HX4 := hide (HX2.out.trans hx)
  replace HB := hide (HB.out.x hx)
  clear hx
  go_wp2_with fail
  refine (HN2.out _).mono ?_
  rintro e w5 ⟨rfl, rfl⟩
  go_wp2_with fail
  refine (HSA.out _ HX4.out).mono ?_
  rintro e w6 ⟨rfl, hx⟩
  have HX6 := hide (HX4.out.trans hx)
  replace HB := hide (HB.out.x hx)
  clear hx
  have f0 := HB.out.cell 0
  have f1 := HB.out.cell 1
  have f2 := HB.out.cell 2
  have z0 := HB.out.frozen 0
  have z1 := HB.out.frozen 1
  have z2 := HB.out.frozen 2
  have hlt5 := HB.out.lt
  simp at f0 f1 f2
  go_wp2
  have hX6 : IsX w (((w6.setCell ⟨RB, 0, none⟩ (.int .i64 (divR p1 1000000))).setCell ⟨RB, 1, none⟩ (.int .i64 (divR p2 1000000))).setCell ⟨RB, 2, none⟩ (.int .i64 sa)) :=
    IsX.setCell (a := ⟨RB, 2, none⟩) (IsX.setCell (a := ⟨RB, 1, none⟩) (IsX.setCell (a := ⟨RB, 0, none⟩) HX6.out HRB.out _) HRB.out _) HRB.out _
  have hB6 := ((HB.out.set_ 0 (.int .i64 (divR p1 1000000))).set_ 1 (.int .i64 (divR p2 1000000))).set_ 2 (.int .i64 sa)
  clear f0 f1 f2 z0 z1 z2
  generalize ((w6.setCell ⟨RB, 0, none⟩ (.int .i64 (divR p1 1000000))).setCell ⟨RB, 1, none⟩ (.int .i64 (divR p2 1000000))).setCell ⟨RB, 2, none⟩ (.int .i64 sa) = V6 at *
  have r0 := hB6.cell 0
  have r1 := hB6.cell 1
  have r2 := hB6.cell 2
  simp at r0 r1 r2
  exact bodyPost_ret (v := .agg #[.int .i64 (divR p1 1000000), .int .i64 (divR p2 1000000), .int .i64 sa]) (by simp [results, Tryd.results80, go_sem, r0, r1, r2]) rfl ⟨by rw [HD.out], hX6⟩

set_option maxHeartbeats 6400000 in
set_option maxRecDepth 100000 in
theorem c_crossOf (a b : V3) (w : World) (ha : a.in_ 1070000) (hb : b.in_ 1070000) : Calls Tryd.prog 89 #[a.val, b.val] w fun e w' => e = .returned (crossZ a b).val ∧ IsX w w' := by
  obtain ⟨a0, a1, a2⟩ := a
  obtain ⟨b0, b1, b2⟩ := b
  obtain ⟨ha0, ha1, ha2⟩ := ha
  obtain ⟨hb0, hb1, hb2⟩ := hb
  simp only at ha0 ha1 ha2 hb0 hb1 hb2
  have m0 := mul_bd2 ha1 hb2
  obtain ⟨p0, hp0⟩ : ∃ p, p = a1 * b2 := ⟨_, rfl⟩
  rw [← hp0] at m0
  have e0 : a1 * b2 = p0 := hp0.symm
  have m1 := mul_bd2 ha2 hb1
  obtain ⟨p1, hp1⟩ : ∃ p, p = a2 * b1 := ⟨_, rfl⟩
  rw [← hp1] at m1
  have e1 : a2 * b1 = p1 := hp1.symm
  have m2 := mul_bd2 ha2 hb0
  obtain ⟨p2, hp2⟩ : ∃ p, p = a2 * b0 := ⟨_, rfl⟩
  rw [← hp2] at m2
  have e2 : a2 * b0 = p2 := hp2.symm
  have m3 := mul_bd2 ha0 hb2
  obtain ⟨p3, hp3⟩ : ∃ p, p = a0 * b2 := ⟨_, rfl⟩
  rw [← hp3] at m3
  have e3 : a0 * b2 = p3 := hp3.symm
  have m4 := mul_bd2 ha0 hb1
  obtain ⟨p4, hp4⟩ : ∃ p, p = a0 * b1 := ⟨_, rfl⟩
  rw [← hp4] at m4
  have e4 : a0 * b1 = p4 := hp4.symm
  have m5 := mul_bd2 ha1 hb0
  obtain ⟨p5, hp5⟩ : ∃ p, p = a1 * b0 := ⟨_, rfl⟩
  rw [← hp5] at m5
  have e5 : a1 * b0 = p5 := hp5.symm
  have HN0 := hide (fun (V : World) => c_nearest_1000000 (p0 - p1) V (by omega))
  have HN1 := hide (fun (V : World) => c_nearest_1000000 (p2 - p3) V (by omega))
  have HN2 := hide (fun (V : World) => c_nearest_1000000 (p4 - p5) V (by omega))
  have HD := hide (show (crossZ ⟨a0, a1, a2⟩ ⟨b0, b1, b2⟩).val = .agg #[.int .i64 (divR (p0 - p1) 1000000), .int .i64 (divR (p2 - p3) 1000000), .int .i64 (divR (p4 - p5) 1000000)] by rw [hp0, hp1, hp2, hp3, hp4, hp5]; rfl)
  simp only [V3.val]
  simp only [V3.val] at HD
  clear hp0 hp1 hp2 hp3 hp4 hp5
  obtain ⟨WA, hWA⟩ : ∃ W, W = ((w.alloc (.cells #[.int .i64 a0, .int .i64 a1, .int .i64 a2] 48)).alloc (.cells #[.int .i64 b0, .int .i64 b1, .int .i64 b2] 48)).alloc (.cells #[.int .i64 0, .int .i64 0, .int .i64 0] 48) := ⟨_, rfl⟩
  obtain ⟨BA, hBA⟩ : ∃ B, B = w.heap.size := ⟨_, rfl⟩
  have HBA := hide (show Blk WA BA 48 #[.int .i64 a0, .int .i64 a1, .int .i64 a2] from by rw [hWA, hBA]; exact ((Blk.new w 48 _).alloc _).alloc _)
  obtain ⟨BB, hBB⟩ : ∃ B, B = BA + 1 := ⟨_, rfl⟩
  have HBB := hide (show Blk WA BB 48 #[.int .i64 b0, .int .i64 b1, .int .i64 b2] from by rw [hWA, hBB, hBA]; have h := (Blk.new (w.alloc (.cells #[.int .i64 a0, .int .i64 a1, .int .i64 a2] 48)) 48 #[.int .i64 b0, .int .i64 b1, .int .i64 b2]).alloc (.cells #[.int .i64 0, .int .i64 0, .int .i64 0] 48); simpa using h)
  obtain ⟨RB, hRB⟩ : ∃ B, B = BA + 2 := ⟨_, rfl⟩
  have HBR := hide (show Blk WA RB 48 #[.int .i64 0, .int .i64 0, .int .i64 0] from by rw [hWA, hRB, hBA]; have h := Blk.new ((w.alloc (.cells #[.int .i64 a0, .int .i64 a1, .int .i64 a2] 48)).alloc (.cells #[.int .i64 b0, .int .i64 b1, .int .i64 b2] 48)) 48 #[.int .i64 0, .int .i64 0, .int .i64 0]; simpa using h)
  have HRB : Hid (w.heap.size ≤ RB) := hide (by omega)
  have HXA := hide (show IsX w WA from by rw [hWA]; exact (((IsX.refl w).alloc _).alloc _).alloc _)
  go_enter Tryd.func89, Tryd.ntmps89
  go_wp2_with fail
  simp only [World.size_alloc, Nat.add_assoc, Nat.reduceAdd]
  rw [← hWA, ← hBA, ← hBB, ← hRB]
  clear hWA hBA hBB hRB
  have q0 := HBA.out.cell 0
  have q1 := HBA.out.cell 1
  have q2 := HBA.out.cell 2
  have q3 := HBB.out.cell 0
  have q4 := HBB.out.cell 1
  have q5 := HBB.out.cell 2
  simp at q0 q1 q2 q3 q4 q5
  have ba := HBA.out.lt
  have bb := HBB.out.lt
  refine wp_region_x_tail 37 (by kernel_rfl) (by kernel_rfl) ?_
  simp only [List.take_succ_cons, List.take_zero, List.drop_succ_cons, List.drop_zero]
  repeat (go_big_quiet_step (fail))
  go_big_quiet_step ((go_at_call 65; exact call_x (HN0.out _)))
  repeat (go_big_quiet_step (fail))
  go_big_quiet_step ((go_at_call 65; exact call_x (HN1.out _)))
  repeat (go_big_quiet_step (fail))
  go_big_quiet_step ((go_at_call 65; exact call_x (HN2.out _)))
  repeat (go_big_quiet_step (fail))
  refine wpQuiet_nil ?_
  rintro _ ⟨q, rfl⟩
  have HB := hide (HBR.out.x ⟨q, rfl⟩)
  have HXQ := hide (HXA.out.trans ⟨q, rfl⟩)
  clear q0 q1 q2 q3 q4 q5 ba bb HBA HBB HBR HXA
  generalize xt WA q = V at *
  have f0 := HB.out.cell 0
  have f1 := HB.out.cell 1
  have f2 := HB.out.cell 2
  have z0 := HB.out.frozen 0
  have z1 := HB.out.frozen 1
  have z2 := HB.out.frozen 2
  have hlt5 := HB.out.lt
  simp at f0 f1 f2
  go_wp2
  have hX6 : IsX w (((V.setCell ⟨RB, 0, none⟩ (.int .i64 (divR (p0 - p1) 1000000))).setCell ⟨RB, 1, none⟩ (.int .i64 (divR (p2 - p3) 1000000))).setCell ⟨RB, 2, none⟩ (.int .i64 (divR (p4 - p5) 1000000))) :=
    IsX.setCell (a := ⟨RB, 2, none⟩) (IsX.setCell (a := ⟨RB, 1, none⟩) (IsX.setCell (a := ⟨RB, 0, none⟩) HXQ.out HRB.out _) HRB.out _) HRB.out _
  have hB6 := ((HB.out.set_ 0 (.int .i64 (divR (p0 - p1) 1000000))).set_ 1 (.int .i64 (divR (p2 - p3) 1000000))).set_ 2 (.int .i64 (divR (p4 - p5) 1000000))
  clear f0 f1 f2 z0 z1 z2
  generalize ((V.setCell ⟨RB, 0, none⟩ (.int .i64 (divR (p0 - p1) 1000000))).setCell ⟨RB, 1, none⟩ (.int .i64 (divR (p2 - p3) 1000000))).setCell ⟨RB, 2, none⟩ (.int .i64 (divR (p4 - p5) 1000000)) = V6 at *
  have r0 := hB6.cell 0
  have r1 := hB6.cell 1
  have r2 := hB6.cell 2
  simp at r0 r1 r2
  exact bodyPost_ret (v := .agg #[.int .i64 (divR (p0 - p1) 1000000), .int .i64 (divR (p2 - p3) 1000000), .int .i64 (divR (p4 - p5) 1000000)]) (by simp [results, Tryd.results89, go_sem, r0, r1, r2]) rfl ⟨by rw [HD.out], hX6⟩

set_option maxHeartbeats 6400000 in
set_option maxRecDepth 100000 in
theorem c_l04Cross (a b : V3) (w : World) (ha : a.in_ 1070000) (hb : b.in_ 1070000) : Calls Tryd.prog 94 #[a.val, b.val] w fun e w' => e = .returned (crossZ a b).val ∧ IsX w w' := by
  obtain ⟨a0, a1, a2⟩ := a
  obtain ⟨b0, b1, b2⟩ := b
  obtain ⟨ha0, ha1, ha2⟩ := ha
  obtain ⟨hb0, hb1, hb2⟩ := hb
  simp only at ha0 ha1 ha2 hb0 hb1 hb2
  have m0 := mul_bd2 ha1 hb2
  obtain ⟨p0, hp0⟩ : ∃ p, p = a1 * b2 := ⟨_, rfl⟩
  rw [← hp0] at m0
  have e0 : a1 * b2 = p0 := hp0.symm
  have m1 := mul_bd2 ha2 hb1
  obtain ⟨p1, hp1⟩ : ∃ p, p = a2 * b1 := ⟨_, rfl⟩
  rw [← hp1] at m1
  have e1 : a2 * b1 = p1 := hp1.symm
  have m2 := mul_bd2 ha2 hb0
  obtain ⟨p2, hp2⟩ : ∃ p, p = a2 * b0 := ⟨_, rfl⟩
  rw [← hp2] at m2
  have e2 : a2 * b0 = p2 := hp2.symm
  have m3 := mul_bd2 ha0 hb2
  obtain ⟨p3, hp3⟩ : ∃ p, p = a0 * b2 := ⟨_, rfl⟩
  rw [← hp3] at m3
  have e3 : a0 * b2 = p3 := hp3.symm
  have m4 := mul_bd2 ha0 hb1
  obtain ⟨p4, hp4⟩ : ∃ p, p = a0 * b1 := ⟨_, rfl⟩
  rw [← hp4] at m4
  have e4 : a0 * b1 = p4 := hp4.symm
  have m5 := mul_bd2 ha1 hb0
  obtain ⟨p5, hp5⟩ : ∃ p, p = a1 * b0 := ⟨_, rfl⟩
  rw [← hp5] at m5
  have e5 : a1 * b0 = p5 := hp5.symm
  have HN0 := hide (fun (V : World) => c_l01Div (p0 - p1) 1000000 V (by omega) (by omega))
  have HN1 := hide (fun (V : World) => c_l01Div (p2 - p3) 1000000 V (by omega) (by omega))
  have HN2 := hide (fun (V : World) => c_l01Div (p4 - p5) 1000000 V (by omega) (by omega))
  have HD := hide (show (crossZ ⟨a0, a1, a2⟩ ⟨b0, b1, b2⟩).val = .agg #[.int .i64 (divR (p0 - p1) 1000000), .int .i64 (divR (p2 - p3) 1000000), .int .i64 (divR (p4 - p5) 1000000)] by rw [hp0, hp1, hp2, hp3, hp4, hp5]; rfl)
  simp only [V3.val]
  simp only [V3.val] at HD
  clear hp0 hp1 hp2 hp3 hp4 hp5
  obtain ⟨WA, hWA⟩ : ∃ W, W = ((w.alloc (.cells #[.int .i64 a0, .int .i64 a1, .int .i64 a2] 48)).alloc (.cells #[.int .i64 b0, .int .i64 b1, .int .i64 b2] 48)).alloc (.cells #[.int .i64 0, .int .i64 0, .int .i64 0] 48) := ⟨_, rfl⟩
  obtain ⟨BA, hBA⟩ : ∃ B, B = w.heap.size := ⟨_, rfl⟩
  have HBA := hide (show Blk WA BA 48 #[.int .i64 a0, .int .i64 a1, .int .i64 a2] from by rw [hWA, hBA]; exact ((Blk.new w 48 _).alloc _).alloc _)
  obtain ⟨BB, hBB⟩ : ∃ B, B = BA + 1 := ⟨_, rfl⟩
  have HBB := hide (show Blk WA BB 48 #[.int .i64 b0, .int .i64 b1, .int .i64 b2] from by rw [hWA, hBB, hBA]; have h := (Blk.new (w.alloc (.cells #[.int .i64 a0, .int .i64 a1, .int .i64 a2] 48)) 48 #[.int .i64 b0, .int .i64 b1, .int .i64 b2]).alloc (.cells #[.int .i64 0, .int .i64 0, .int .i64 0] 48); simpa using h)
  obtain ⟨RB, hRB⟩ : ∃ B, B = BA + 2 := ⟨_, rfl⟩
  have HBR := hide (show Blk WA RB 48 #[.int .i64 0, .int .i64 0, .int .i64 0] from by rw [hWA, hRB, hBA]; have h := Blk.new ((w.alloc (.cells #[.int .i64 a0, .int .i64 a1, .int .i64 a2] 48)).alloc (.cells #[.int .i64 b0, .int .i64 b1, .int .i64 b2] 48)) 48 #[.int .i64 0, .int .i64 0, .int .i64 0]; simpa using h)
  have HRB : Hid (w.heap.size ≤ RB) := hide (by omega)
  have HXA := hide (show IsX w WA from by rw [hWA]; exact (((IsX.refl w).alloc _).alloc _).alloc _)
  go_enter Tryd.func94, Tryd.ntmps94
  go_wp2_with fail
  simp only [World.size_alloc, Nat.add_assoc, Nat.reduceAdd]
  rw [← hWA, ← hBA, ← hBB, ← hRB]
  clear hWA hBA hBB hRB
  have q0 := HBA.out.cell 0
  have q1 := HBA.out.cell 1
  have q2 := HBA.out.cell 2
  have q3 := HBB.out.cell 0
  have q4 := HBB.out.cell 1
  have q5 := HBB.out.cell 2
  simp at q0 q1 q2 q3 q4 q5
  have ba := HBA.out.lt
  have bb := HBB.out.lt
  refine wp_region_x_tail 37 (by kernel_rfl) (by kernel_rfl) ?_
  simp only [List.take_succ_cons, List.take_zero, List.drop_succ_cons, List.drop_zero]
  repeat (go_big_quiet_step (fail))
  go_big_quiet_step ((go_at_call 44; exact call_q (HN0.out _)))
  repeat (go_big_quiet_step (fail))
  go_big_quiet_step ((go_at_call 44; exact call_q (HN1.out _)))
  repeat (go_big_quiet_step (fail))
  go_big_quiet_step ((go_at_call 44; exact call_q (HN2.out _)))
  repeat (go_big_quiet_step (fail))
  refine wpQuiet_nil ?_
  rintro _ ⟨q, rfl⟩
  have HB := hide (HBR.out.x ⟨q, rfl⟩)
  have HXQ := hide (HXA.out.trans ⟨q, rfl⟩)
  clear q0 q1 q2 q3 q4 q5 ba bb HBA HBB HBR HXA
  generalize xt WA q = V at *
  have f0 := HB.out.cell 0
  have f1 := HB.out.cell 1
  have f2 := HB.out.cell 2
  have z0 := HB.out.frozen 0
  have z1 := HB.out.frozen 1
  have z2 := HB.out.frozen 2
  have hlt5 := HB.out.lt
  simp at f0 f1 f2
  go_wp2
  have hX6 : IsX w (((V.setCell ⟨RB, 0, none⟩ (.int .i64 (divR (p0 - p1) 1000000))).setCell ⟨RB, 1, none⟩ (.int .i64 (divR (p2 - p3) 1000000))).setCell ⟨RB, 2, none⟩ (.int .i64 (divR (p4 - p5) 1000000))) :=
    IsX.setCell (a := ⟨RB, 2, none⟩) (IsX.setCell (a := ⟨RB, 1, none⟩) (IsX.setCell (a := ⟨RB, 0, none⟩) HXQ.out HRB.out _) HRB.out _) HRB.out _
  have hB6 := ((HB.out.set_ 0 (.int .i64 (divR (p0 - p1) 1000000))).set_ 1 (.int .i64 (divR (p2 - p3) 1000000))).set_ 2 (.int .i64 (divR (p4 - p5) 1000000))
  clear f0 f1 f2 z0 z1 z2
  generalize ((V.setCell ⟨RB, 0, none⟩ (.int .i64 (divR (p0 - p1) 1000000))).setCell ⟨RB, 1, none⟩ (.int .i64 (divR (p2 - p3) 1000000))).setCell ⟨RB, 2, none⟩ (.int .i64 (divR (p4 - p5) 1000000)) = V6 at *
  have r0 := hB6.cell 0
  have r1 := hB6.cell 1
  have r2 := hB6.cell 2
  simp at r0 r1 r2
  exact bodyPost_ret (v := .agg #[.int .i64 (divR (p0 - p1) 1000000), .int .i64 (divR (p2 - p3) 1000000), .int .i64 (divR (p4 - p5) 1000000)]) (by simp [results, Tryd.results94, go_sem, r0, r1, r2]) rfl ⟨by rw [HD.out], hX6⟩

end Go.Proofs.YtadmpefbpklibaaDoor
