/- Points of domes: what the reference and the program compute. Conditions: radii from 0 to 30000; the table of sines as the program's text lays it. -/
import Derived.Test.YtadmpefbpklibaaDoorDomeC
import Derived.Test.YtadmpefbpklibaaDoorFlatDome
namespace Go.Proofs.YtadmpefbpklibaaDoor
set_option linter.unusedVariables false
open Go.RowKit

theorem angI_norm (a : Int) : angI (a % 360000) := by unfold angI; omega
def domV (n : ByteArray) (R T : Int) : Value := .agg #[.string n, .int .i64 R, .int .i64 T]

set_option maxHeartbeats 6400000 in
set_option maxRecDepth 100000 in
theorem c_domeVector (az al : Int) (w : World) (haz : -100000000 ≤ az ∧ az ≤ 100000000) (hal : angI al) (HTAB : ∀ W, IsX w W → sinTab W) : Calls Tryd.prog 97 #[.int .i64 az, .int .i64 al] w fun e w' => e = .returned (dirZ ((90000 - az) % 360000) al).val ∧ IsX w w' := by
  have HNO := hide (fun (V : World) => c_NormalAngle (90000 - az) V (by omega))
  have HDI := hide (fun V (hV : IsX w V) => c_directionOf ((90000 - az) % 360000) al V (angI_norm _) hal (fun U hU => HTAB U (hV.trans hU)))
  generalize (90000 - az) % 360000 = na at *
  generalize dirZ na al = v at *
  obtain ⟨v0, v1, v2⟩ := v
  simp only [V3.val] at HDI ⊢
  clear HTAB hal
  obtain ⟨W0, hW0⟩ : ∃ W, W = (w.alloc (.cells #[.int .i64 0, .int .i64 0, .int .i64 0] 48)) := ⟨_, rfl⟩
  obtain ⟨RB, hRB⟩ : ∃ B, B = w.heap.size := ⟨_, rfl⟩
  have HRBB := hide (show Blk W0 RB 48 #[.int .i64 0, .int .i64 0, .int .i64 0] from by rw [hW0, hRB]; have h := (Blk.new w 48 #[.int .i64 0, .int .i64 0, .int .i64 0]); simpa using h)
  have HX0 := hide (show IsX w W0 from by rw [hW0]; exact (IsX.refl w).alloc _)
  have HRB : Hid (w.heap.size ≤ RB) := hide (by omega)
  go_enter Tryd.func97, Tryd.ntmps97
  go_wp2_with fail
  (try simp only [World.size_alloc, Nat.add_assoc, Nat.reduceAdd])
  rw [← hW0]
  simp only [← hRB]
  clear hW0 hRB
  refine (HNO.out _).mono ?_
  rintro e w1 ⟨rfl, rfl⟩
  go_wp2_with fail
  refine (HDI.out _ HX0.out).mono ?_
  rintro e w1 ⟨rfl, hx⟩
  have HX1 := hide (HX0.out.trans hx)
  replace HRBB := hide (HRBB.out.x hx)
  clear hx
  have f0 := HRBB.out.cell 0
  have f1 := HRBB.out.cell 1
  have f2 := HRBB.out.cell 2
  have z0 := HRBB.out.frozen 0
  have z1 := HRBB.out.frozen 1
  have z2 := HRBB.out.frozen 2
  have hlt5 := HRBB.out.lt
  simp at f0 f1 f2
  go_wp2
  have hX6 : IsX w (((w1.setCell ⟨RB, 0, none⟩ (.int .i64 v0)).setCell ⟨RB, 1, none⟩ (.int .i64 v1)).setCell ⟨RB, 2, none⟩ (.int .i64 v2)) :=
    IsX.setCell (a := ⟨RB, 2, none⟩) (IsX.setCell (a := ⟨RB, 1, none⟩) (IsX.setCell (a := ⟨RB, 0, none⟩) HX1.out HRB.out _) HRB.out _) HRB.out _
  have hB6 := ((HRBB.out.set_ 0 (.int .i64 v0)).set_ 1 (.int .i64 v1)).set_ 2 (.int .i64 v2)
  clear f0 f1 f2 z0 z1 z2
  generalize ((w1.setCell ⟨RB, 0, none⟩ (.int .i64 v0)).setCell ⟨RB, 1, none⟩ (.int .i64 v1)).setCell ⟨RB, 2, none⟩ (.int .i64 v2) = V6 at *
  have r0 := hB6.cell 0
  have r1 := hB6.cell 1
  have r2 := hB6.cell 2
  simp at r0 r1 r2
  exact bodyPost_ret (v := .agg #[.int .i64 v0, .int .i64 v1, .int .i64 v2]) (by simp [results, Tryd.results97, go_sem, r0, r1, r2]) rfl ⟨by first | rfl | simp, hX6⟩

set_option maxHeartbeats 6400000 in
set_option maxRecDepth 100000 in
theorem c_domePoint (dn : ByteArray) (R dt az al : Int) (w : World) (hR : 0 ≤ R ∧ R ≤ 30000) (haz : -100000000 ≤ az ∧ az ≤ 100000000) (hal : angI al) (HTAB : ∀ W, IsX w W → sinTab W) : Calls Tryd.prog 86 #[domV dn R dt, .int .i64 az, .int .i64 al] w fun e w' => e = .returned (pointZ R az al).val ∧ IsX w w' := by
  have HDI := hide (fun V (hV : IsX w V) => c_domeVector az al V haz hal (fun U hU => HTAB U (hV.trans hU)))
  have HPZ := hide (show pointZ R az al = ⟨nearM (R * (dirZ ((90000 - az) % 360000) al).x), nearM (R * (dirZ ((90000 - az) % 360000) al).y), nearM (R * (dirZ ((90000 - az) % 360000) al).z)⟩ from rfl)
  have hdb := dirZ_bd ((90000 - az) % 360000) al
  generalize dirZ ((90000 - az) % 360000) al = v at *
  generalize pointZ R az al = pz at *
  obtain ⟨v0, v1, v2⟩ := v
  obtain ⟨hv0, hv1, hv2⟩ := hdb
  simp only at hv0 hv1 hv2 HPZ
  have hRb : -30000 ≤ R ∧ R ≤ 30000 := by omega
  have m0 := mul_bd2 hRb hv0
  obtain ⟨p0, hp0⟩ : ∃ p, p = R * v0 := ⟨_, rfl⟩
  rw [← hp0] at m0
  have e0 : R * v0 = p0 := hp0.symm
  have m1 := mul_bd2 hRb hv1
  obtain ⟨p1, hp1⟩ : ∃ p, p = R * v1 := ⟨_, rfl⟩
  rw [← hp1] at m1
  have e1 : R * v1 = p1 := hp1.symm
  have m2 := mul_bd2 hRb hv2
  obtain ⟨p2, hp2⟩ : ∃ p, p = R * v2 := ⟨_, rfl⟩
  rw [← hp2] at m2
  have e2 : R * v2 = p2 := hp2.symm
  have HN0 := hide (fun (V : World) => c_nearest_1000000 p0 V (by omega))
  have HN1 := hide (fun (V : World) => c_nearest_1000000 p1 V (by omega))
  have HN2 := hide (fun (V : World) => c_nearest_1000000 p2 V (by omega))
  have HD := hide (show pz.val = .agg #[.int .i64 (divR p0 1000000), .int .i64 (divR p1 1000000), .int .i64 (divR p2 1000000)] by rw [HPZ.out, hp0, hp1, hp2]; rfl)
  simp only [V3.val, domV] at HDI ⊢
  simp only [V3.val] at HD
  clear hp0 hp1 hp2 HPZ hal HTAB
  obtain ⟨W0, hW0⟩ : ∃ W, W = ((w.alloc (.cells #[.string dn, .int .i64 R, .int .i64 dt] 29)).alloc (.cells #[.int .i64 0, .int .i64 0, .int .i64 0] 48)) := ⟨_, rfl⟩
  obtain ⟨BD, hBD⟩ : ∃ B, B = w.heap.size := ⟨_, rfl⟩
  have HBD := hide (show Blk W0 BD 29 #[.string dn, .int .i64 R, .int .i64 dt] from by rw [hW0, hBD]; have h := ((Blk.new w 29 #[.string dn, .int .i64 R, .int .i64 dt]).alloc (.cells #[.int .i64 0, .int .i64 0, .int .i64 0] 48)); simpa using h)
  obtain ⟨RB, hRB⟩ : ∃ B, B = BD + 1 := ⟨_, rfl⟩
  have HRBB := hide (show Blk W0 RB 48 #[.int .i64 0, .int .i64 0, .int .i64 0] from by rw [hW0, hRB, hBD]; have h := (Blk.new (w.alloc (.cells #[.string dn, .int .i64 R, .int .i64 dt] 29)) 48 #[.int .i64 0, .int .i64 0, .int .i64 0]); simpa using h)
  have HX0 := hide (show IsX w W0 from by rw [hW0]; exact ((IsX.refl w).alloc _).alloc _)
  have HRB : Hid (w.heap.size ≤ RB) := hide (by omega)
  go_enter Tryd.func86, Tryd.ntmps86
  go_wp2_with fail
  (try simp only [World.size_alloc, Nat.add_assoc, Nat.reduceAdd])
  rw [← hW0]
  simp only [← hBD, ← hRB]
  clear hW0 hBD hRB
  refine (HDI.out _ HX0.out).mono ?_
  rintro e w1 ⟨rfl, hx⟩
  have HX1 := hide (HX0.out.trans hx)
  replace HRBB := hide (HRBB.out.x hx)
  replace HBD := hide (HBD.out.x hx)
  clear hx
  go_wp2_with fail
  obtain ⟨W2, hW2⟩ : ∃ W, W = w1.alloc (.cells #[.int .i64 v0, .int .i64 v1, .int .i64 v2] 48) := ⟨_, rfl⟩
  obtain ⟨BV, hBV⟩ : ∃ B, B = w1.heap.size := ⟨_, rfl⟩
  have HBV := hide (show Blk W2 BV 48 #[.int .i64 v0, .int .i64 v1, .int .i64 v2] from by rw [hW2, hBV]; exact Blk.new _ _ _)
  have HX2 := hide (show IsX w W2 from hW2 ▸ HX1.out.alloc _)
  replace HRBB := hide (show Blk W2 RB 48 #[.int .i64 0, .int .i64 0, .int .i64 0] from hW2 ▸ HRBB.out.alloc _)
  replace HBD := hide (show Blk W2 BD 29 #[.string dn, .int .i64 R, .int .i64 dt] from hW2 ▸ HBD.out.alloc _)
  rw [← hW2, ← hBV]
  clear hW2 hBV
  have q0 := HBV.out.cell 0
  have q1 := HBV.out.cell 1
  have q2 := HBV.out.cell 2
  simp at q0 q1 q2
  have ql := HBV.out.lt
  have d1 := HBD.out.cell 1
  simp at d1
  have dl := HBD.out.lt
  refine wp_region_x_tail 19 (by kernel_rfl) (by kernel_rfl) ?_
  simp only [List.take_succ_cons, List.take_zero, List.drop_succ_cons, List.drop_zero]
  repeat (go_big_quiet_step (fail))
  go_big_quiet_step ((go_at_call 65; exact call_x (HN0.out _)))
  repeat (go_big_quiet_step (fail))
  go_big_quiet_step ((go_at_call 65; exact call_x (HN1.out _)))
  repeat (go_big_quiet_step (fail))
  go_big_quiet_step ((go_at_call 65; exact call_x (HN2.out _)))
  repeat (go_big_quiet_step (fail))
  refine wpQuiet_nil ?_
  rintro _ ⟨q, rfl⟩
  have HB := hide (HRBB.out.x ⟨q, rfl⟩)
  have HXQ := hide (HX2.out.trans ⟨q, rfl⟩)
  clear q0 q1 q2 ql d1 dl HRBB HBV HX2
  generalize xt W2 q = V at *
  have f0 := HB.out.cell 0
  have f1 := HB.out.cell 1
  have f2 := HB.out.cell 2
  have z0 := HB.out.frozen 0
  have z1 := HB.out.frozen 1
  have z2 := HB.out.frozen 2
  have hlt5 := HB.out.lt
  simp at f0 f1 f2
  go_wp2
  have hX6 : IsX w (((V.setCell ⟨RB, 0, none⟩ (.int .i64 (divR p0 1000000))).setCell ⟨RB, 1, none⟩ (.int .i64 (divR p1 1000000))).setCell ⟨RB, 2, none⟩ (.int .i64 (divR p2 1000000))) :=
    IsX.setCell (a := ⟨RB, 2, none⟩) (IsX.setCell (a := ⟨RB, 1, none⟩) (IsX.setCell (a := ⟨RB, 0, none⟩) HXQ.out HRB.out _) HRB.out _) HRB.out _
  have hB6 := ((HB.out.set_ 0 (.int .i64 (divR p0 1000000))).set_ 1 (.int .i64 (divR p1 1000000))).set_ 2 (.int .i64 (divR p2 1000000))
  clear f0 f1 f2 z0 z1 z2
  generalize ((V.setCell ⟨RB, 0, none⟩ (.int .i64 (divR p0 1000000))).setCell ⟨RB, 1, none⟩ (.int .i64 (divR p1 1000000))).setCell ⟨RB, 2, none⟩ (.int .i64 (divR p2 1000000)) = V6 at *
  have r0 := hB6.cell 0
  have r1 := hB6.cell 1
  have r2 := hB6.cell 2
  simp at r0 r1 r2
  exact bodyPost_ret (v := .agg #[.int .i64 (divR p0 1000000), .int .i64 (divR p1 1000000), .int .i64 (divR p2 1000000)]) (by simp [results, Tryd.results86, go_sem, r0, r1, r2]) rfl ⟨by rw [HD.out], hX6⟩

set_option maxHeartbeats 6400000 in
set_option maxRecDepth 100000 in
theorem c_l09Point (b : Nat) (R az al : Int) (w : World) (hR : 0 ≤ R ∧ R ≤ 30000) (haz : -100000000 ≤ az ∧ az ≤ 100000000) (hal : angI al) (hbd : b < w.heap.size) (hbc : w.cell? ⟨b, 1, none⟩ = some (.int .i64 R)) : Calls Tryd.prog 76 #[.pointer (some ⟨b, 0, none⟩), .int .i64 az, .int .i64 al] w fun e w' => e = .returned (pointZ R az al).val ∧ IsX w w' := by
  have HNO := hide (fun (V : World) => c_l02Normal (90000 - az) V (by omega))
  have HDI := hide (fun (V : World) => c_l04Direction ((90000 - az) % 360000) al V (angI_norm _) hal)
  have HBC := hide (show ∀ V, IsX w V → V.cell? ⟨b, 1, none⟩ = some (.int .i64 R) ∧ b < V.heap.size from fun V hV => ⟨keep hV hbd hbc, Nat.lt_of_lt_of_le hbd hV.size⟩)
  have HPZ := hide (show pointZ R az al = ⟨nearM (R * (dirZ ((90000 - az) % 360000) al).x), nearM (R * (dirZ ((90000 - az) % 360000) al).y), nearM (R * (dirZ ((90000 - az) % 360000) al).z)⟩ from rfl)
  have hdb := dirZ_bd ((90000 - az) % 360000) al
  generalize dirZ ((90000 - az) % 360000) al = v at *
  generalize (90000 - az) % 360000 = na at *
  generalize pointZ R az al = pz at *
  obtain ⟨v0, v1, v2⟩ := v
  obtain ⟨hv0, hv1, hv2⟩ := hdb
  simp only at hv0 hv1 hv2 HPZ
  have hRb : -30000 ≤ R ∧ R ≤ 30000 := by omega
  have m0 := mul_bd2 hRb hv0
  obtain ⟨p0, hp0⟩ : ∃ p, p = R * v0 := ⟨_, rfl⟩
  rw [← hp0] at m0
  have e0 : R * v0 = p0 := hp0.symm
  have m1 := mul_bd2 hRb hv1
  obtain ⟨p1, hp1⟩ : ∃ p, p = R * v1 := ⟨_, rfl⟩
  rw [← hp1] at m1
  have e1 : R * v1 = p1 := hp1.symm
  have m2 := mul_bd2 hRb hv2
  obtain ⟨p2, hp2⟩ : ∃ p, p = R * v2 := ⟨_, rfl⟩
  rw [← hp2] at m2
  have e2 : R * v2 = p2 := hp2.symm
  have HN0 := hide (fun (V : World) => c_l01Div p0 1000000 V (by omega) (by omega))
  have HN1 := hide (fun (V : World) => c_l01Div p1 1000000 V (by omega) (by omega))
  have HN2 := hide (fun (V : World) => c_l01Div p2 1000000 V (by omega) (by omega))
  have HD := hide (show pz.val = .agg #[.int .i64 (divR p0 1000000), .int .i64 (divR p1 1000000), .int .i64 (divR p2 1000000)] by rw [HPZ.out, hp0, hp1, hp2]; rfl)
  simp only [V3.val, domV] at HDI ⊢
  simp only [V3.val] at HD
  clear hp0 hp1 hp2 HPZ hal hbd hbc
  obtain ⟨W0, hW0⟩ : ∃ W, W = (w.alloc (.cells #[.int .i64 0, .int .i64 0, .int .i64 0] 48)) := ⟨_, rfl⟩
  obtain ⟨RB, hRB⟩ : ∃ B, B = w.heap.size := ⟨_, rfl⟩
  have HRBB := hide (show Blk W0 RB 48 #[.int .i64 0, .int .i64 0, .int .i64 0] from by rw [hW0, hRB]; have h := (Blk.new w 48 #[.int .i64 0, .int .i64 0, .int .i64 0]); simpa using h)
  have HX0 := hide (show IsX w W0 from by rw [hW0]; exact (IsX.refl w).alloc _)
  have HRB : Hid (w.heap.size ≤ RB) := hide (by omega)
  go_enter Tryd.func76, Tryd.ntmps76
  go_wp2_with fail
  (try simp only [World.size_alloc, Nat.add_assoc, Nat.reduceAdd])
  rw [← hW0]
  simp only [← hRB]
  clear hW0 hRB
  refine (HNO.out _).mono ?_
  rintro e w1 ⟨rfl, rfl⟩
  go_wp2_with fail
  refine (HDI.out _).mono ?_
  rintro e w1 ⟨rfl, hx⟩
  have HX1 := hide (HX0.out.trans hx)
  replace HRBB := hide (HRBB.out.x hx)
  clear hx
  go_wp2_with fail
  obtain ⟨W2, hW2⟩ : ∃ W, W = w1.alloc (.cells #[.int .i64 v0, .int .i64 v1, .int .i64 v2] 48) := ⟨_, rfl⟩
  obtain ⟨BV, hBV⟩ : ∃ B, B = w1.heap.size := ⟨_, rfl⟩
  have HBV := hide (show Blk W2 BV 48 #[.int .i64 v0, .int .i64 v1, .int .i64 v2] from by rw [hW2, hBV]; exact Blk.new _ _ _)
  have HX2 := hide (show IsX w W2 from hW2 ▸ HX1.out.alloc _)
  replace HRBB := hide (show Blk W2 RB 48 #[.int .i64 0, .int .i64 0, .int .i64 0] from hW2 ▸ HRBB.out.alloc _)
  rw [← hW2, ← hBV]
  clear hW2 hBV
  have q0 := HBV.out.cell 0
  have q1 := HBV.out.cell 1
  have q2 := HBV.out.cell 2
  simp at q0 q1 q2
  have ql := HBV.out.lt
  obtain ⟨d1, dl⟩ := HBC.out W2 HX2.out
  refine wp_region_x_tail 25 (by kernel_rfl) (by kernel_rfl) ?_
  simp only [List.take_succ_cons, List.take_zero, List.drop_succ_cons, List.drop_zero]
  repeat (go_big_quiet_step (fail))
  go_big_quiet_step ((go_at_call 44; exact call_q (HN0.out _)))
  repeat (go_big_quiet_step (fail))
  go_big_quiet_step ((go_at_call 44; exact call_q (HN1.out _)))
  repeat (go_big_quiet_step (fail))
  go_big_quiet_step ((go_at_call 44; exact call_q (HN2.out _)))
  repeat (go_big_quiet_step (fail))
  refine wpQuiet_nil ?_
  rintro _ ⟨q, rfl⟩
  have HB := hide (HRBB.out.x ⟨q, rfl⟩)
  have HXQ := hide (HX2.out.trans ⟨q, rfl⟩)
  clear q0 q1 q2 ql d1 dl HRBB HBV HX2
  generalize xt W2 q = V at *
  have f0 := HB.out.cell 0
  have f1 := HB.out.cell 1
  have f2 := HB.out.cell 2
  have z0 := HB.out.frozen 0
  have z1 := HB.out.frozen 1
  have z2 := HB.out.frozen 2
  have hlt5 := HB.out.lt
  simp at f0 f1 f2
  go_wp2
  have hX6 : IsX w (((V.setCell ⟨RB, 0, none⟩ (.int .i64 (divR p0 1000000))).setCell ⟨RB, 1, none⟩ (.int .i64 (divR p1 1000000))).setCell ⟨RB, 2, none⟩ (.int .i64 (divR p2 1000000))) :=
    IsX.setCell (a := ⟨RB, 2, none⟩) (IsX.setCell (a := ⟨RB, 1, none⟩) (IsX.setCell (a := ⟨RB, 0, none⟩) HXQ.out HRB.out _) HRB.out _) HRB.out _
  have hB6 := ((HB.out.set_ 0 (.int .i64 (divR p0 1000000))).set_ 1 (.int .i64 (divR p1 1000000))).set_ 2 (.int .i64 (divR p2 1000000))
  clear f0 f1 f2 z0 z1 z2
  generalize ((V.setCell ⟨RB, 0, none⟩ (.int .i64 (divR p0 1000000))).setCell ⟨RB, 1, none⟩ (.int .i64 (divR p1 1000000))).setCell ⟨RB, 2, none⟩ (.int .i64 (divR p2 1000000)) = V6 at *
  have r0 := hB6.cell 0
  have r1 := hB6.cell 1
  have r2 := hB6.cell 2
  simp at r0 r1 r2
  exact bodyPost_ret (v := .agg #[.int .i64 (divR p0 1000000), .int .i64 (divR p1 1000000), .int .i64 (divR p2 1000000)]) (by simp [results, Tryd.results76, go_sem, r0, r1, r2]) rfl ⟨by rw [HD.out], hX6⟩

end Go.Proofs.YtadmpefbpklibaaDoor
