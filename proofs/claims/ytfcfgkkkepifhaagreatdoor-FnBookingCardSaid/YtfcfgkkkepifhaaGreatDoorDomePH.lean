/- Joined texts: DomeP, DomeG, DomeH. Conditions: told in each. -/
import Derived.Test.YtfcfgkkkepifhaaGreatDoorDomeCE
import Derived.Test.YtfcfgkkkepifhaaGreatDoorFlatDome
/- DomeP -/
namespace Go.Proofs.YtfcfgkkkepifhaaGreatDoor
set_option linter.unusedVariables false
open Go.RowKit

theorem angI_norm (a : Int) : angI (a % 360000) := by unfold angI; omega
def domV (n : ByteArray) (R T : Int) : Value := .agg #[.string n, .int .i64 R, .int .i64 T]

set_option maxHeartbeats 6400000 in
set_option maxRecDepth 100000 in
theorem c_domeVector (az al : Int) (w : World) (haz : -100000000 ≤ az ∧ az ≤ 100000000) (hal : angI al) (HTAB : ∀ W, IsX w W → sinTab W) : Calls Tryz.prog 162 #[.int .i64 az, .int .i64 al] w fun e w' => e = .returned (dirZ ((90000 - az) % 360000) al).val ∧ IsX w w' := by
  have HNO := hide (fun (V : World) => c_NormalAngle (90000 - az) V (by omega))
  have HDI := hide (fun V (hV : IsX w V) => c_directionOf ((90000 - az) % 360000) al V (angI_norm _) hal (fun U hU => HTAB U (hV.trans hU)))
  generalize (90000 - az) % 360000 = na at *
  generalize dirZ na al = v at *
  obtain ⟨v0, v1, v2⟩ := v
  simp only [V3.val] at HDI ⊢
  clear HTAB hal
  obtain ⟨W0, hW0⟩ : ∃ W, W = (w.alloc (.cells #[.int .i64 0, .int .i64 0, .int .i64 0] 29)) := ⟨_, rfl⟩
  obtain ⟨RB, hRB⟩ : ∃ B, B = w.heap.size := ⟨_, rfl⟩
  have HRBB := hide (show Blk W0 RB 29 #[.int .i64 0, .int .i64 0, .int .i64 0] from by rw [hW0, hRB]; have h := (Blk.new w 29 #[.int .i64 0, .int .i64 0, .int .i64 0]); simpa using h)
  have HX0 := hide (show IsX w W0 from by rw [hW0]; exact (IsX.refl w).alloc _)
  have HRB : Hid (w.heap.size ≤ RB) := hide (by omega)
  go_enter Tryz.func162, Tryz.ntmps162
  go_wp2_with fail
  (try simp only [World.size_alloc, Nat.add_assoc, Nat.reduceAdd])
  rw [← hW0]
  simp only [← hRB]
  clear hW0 hRB
  refine (HNO.out _).mono ?_
  rintro e w1 ⟨rfl, rfl⟩
  go_wp2_with fail
  refine (HDI.out _ HX0.out).mono ?_
  rintro e w1 ⟨rfl, hx⟩
  have HX1 := hide (HX0.out.trans hx)
  replace HRBB := hide (HRBB.out.x hx)
  clear hx
  have f0 := HRBB.out.cell 0
  have f1 := HRBB.out.cell 1
  have f2 := HRBB.out.cell 2
  have z0 := HRBB.out.frozen 0
  have z1 := HRBB.out.frozen 1
  have z2 := HRBB.out.frozen 2
  have hlt5 := HRBB.out.lt
  simp at f0 f1 f2
  go_wp2
  have hX6 : IsX w (((w1.setCell ⟨RB, 0, none⟩ (.int .i64 v0)).setCell ⟨RB, 1, none⟩ (.int .i64 v1)).setCell ⟨RB, 2, none⟩ (.int .i64 v2)) :=
    IsX.setCell (a := ⟨RB, 2, none⟩) (IsX.setCell (a := ⟨RB, 1, none⟩) (IsX.setCell (a := ⟨RB, 0, none⟩) HX1.out HRB.out _) HRB.out _) HRB.out _
  have hB6 := ((HRBB.out.set_ 0 (.int .i64 v0)).set_ 1 (.int .i64 v1)).set_ 2 (.int .i64 v2)
  clear f0 f1 f2 z0 z1 z2
  generalize ((w1.setCell ⟨RB, 0, none⟩ (.int .i64 v0)).setCell ⟨RB, 1, none⟩ (.int .i64 v1)).setCell ⟨RB, 2, none⟩ (.int .i64 v2) = V6 at *
  have r0 := hB6.cell 0
  have r1 := hB6.cell 1
  have r2 := hB6.cell 2
  simp at r0 r1 r2
  exact bodyPost_ret (v := .agg #[.int .i64 v0, .int .i64 v1, .int .i64 v2]) (by simp [results, Tryz.results162, go_sem, r0, r1, r2]) rfl ⟨by first | rfl | simp, hX6⟩

set_option maxHeartbeats 6400000 in
set_option maxRecDepth 100000 in
theorem c_domePoint (dn : ByteArray) (R dt az al : Int) (w : World) (hR : 0 ≤ R ∧ R ≤ 30000) (haz : -100000000 ≤ az ∧ az ≤ 100000000) (hal : angI al) (HTAB : ∀ W, IsX w W → sinTab W) : Calls Tryz.prog 133 #[domV dn R dt, .int .i64 az, .int .i64 al] w fun e w' => e = .returned (pointZ R az al).val ∧ IsX w w' := by
  have HDI := hide (fun V (hV : IsX w V) => c_domeVector az al V haz hal (fun U hU => HTAB U (hV.trans hU)))
  have HPZ := hide (show pointZ R az al = ⟨nearM (R * (dirZ ((90000 - az) % 360000) al).x), nearM (R * (dirZ ((90000 - az) % 360000) al).y), nearM (R * (dirZ ((90000 - az) % 360000) al).z)⟩ from rfl)
  have hdb := dirZ_bd ((90000 - az) % 360000) al
  generalize dirZ ((90000 - az) % 360000) al = v at *
  generalize pointZ R az al = pz at *
  obtain ⟨v0, v1, v2⟩ := v
  obtain ⟨hv0, hv1, hv2⟩ := hdb
  simp only at hv0 hv1 hv2 HPZ
  have hRb : -30000 ≤ R ∧ R ≤ 30000 := by omega
  have m0 := mul_bd2 hRb hv0
  obtain ⟨p0, hp0⟩ : ∃ p, p = R * v0 := ⟨_, rfl⟩
  rw [← hp0] at m0
  have e0 : R * v0 = p0 := hp0.symm
  have m1 := mul_bd2 hRb hv1
  obtain ⟨p1, hp1⟩ : ∃ p, p = R * v1 := ⟨_, rfl⟩
  rw [← hp1] at m1
  have e1 : R * v1 = p1 := hp1.symm
  have m2 := mul_bd2 hRb hv2
  obtain ⟨p2, hp2⟩ : ∃ p, p = R * v2 := ⟨_, rfl⟩
  rw [← hp2] at m2
  have e2 : R * v2 = p2 := hp2.symm
  have HN0 := hide (fun (V : World) => c_nearest_1000000 p0 V (by omega))
  have HN1 := hide (fun (V : World) => c_nearest_1000000 p1 V (by omega))
  have HN2 := hide (fun (V : World) => c_nearest_1000000 p2 V (by omega))
  have HD := hide (show pz.val = .agg #[.int .i64 (divR p0 1000000), .int .i64 (divR p1 1000000), .int .i64 (divR p2 1000000)] by rw [HPZ.out, hp0, hp1, hp2]; rfl)
  simp only [V3.val, domV] at HDI ⊢
  simp only [V3.val] at HD
  clear hp0 hp1 hp2 HPZ hal HTAB
  obtain ⟨W0, hW0⟩ : ∃ W, W = ((w.alloc (.cells #[.string dn, .int .i64 R, .int .i64 dt] 38)).alloc (.cells #[.int .i64 0, .int .i64 0, .int .i64 0] 29)) := ⟨_, rfl⟩
  obtain ⟨BD, hBD⟩ : ∃ B, B = w.heap.size := ⟨_, rfl⟩
  have HBD := hide (show Blk W0 BD 38 #[.string dn, .int .i64 R, .int .i64 dt] from by rw [hW0, hBD]; have h := ((Blk.new w 38 #[.string dn, .int .i64 R, .int .i64 dt]).alloc (.cells #[.int .i64 0, .int .i64 0, .int .i64 0] 29)); simpa using h)
  obtain ⟨RB, hRB⟩ : ∃ B, B = BD + 1 := ⟨_, rfl⟩
  have HRBB := hide (show Blk W0 RB 29 #[.int .i64 0, .int .i64 0, .int .i64 0] from by rw [hW0, hRB, hBD]; have h := (Blk.new (w.alloc (.cells #[.string dn, .int .i64 R, .int .i64 dt] 38)) 29 #[.int .i64 0, .int .i64 0, .int .i64 0]); simpa using h)
  have HX0 := hide (show IsX w W0 from by rw [hW0]; exact ((IsX.refl w).alloc _).alloc _)
  have HRB : Hid (w.heap.size ≤ RB) := hide (by omega)
  go_enter Tryz.func133, Tryz.ntmps133
  go_wp2_with fail
  (try simp only [World.size_alloc, Nat.add_assoc, Nat.reduceAdd])
  rw [← hW0]
  simp only [← hBD, ← hRB]
  clear hW0 hBD hRB
  refine (HDI.out _ HX0.out).mono ?_
  rintro e w1 ⟨rfl, hx⟩
  have HX1 := hide (HX0.out.trans hx)
  replace HRBB := hide (HRBB.out.x hx)
  replace HBD := hide (HBD.out.x hx)
  clear hx
  go_wp2_with fail
  obtain ⟨W2, hW2⟩ : ∃ W, W = w1.alloc (.cells #[.int .i64 v0, .int .i64 v1, .int .i64 v2] 29) := ⟨_, rfl⟩
  obtain ⟨BV, hBV⟩ : ∃ B, B = w1.heap.size := ⟨_, rfl⟩
  have HBV := hide (show Blk W2 BV 29 #[.int .i64 v0, .int .i64 v1, .int .i64 v2] from by rw [hW2, hBV]; exact Blk.new _ _ _)
  have HX2 := hide (show IsX w W2 from hW2 ▸ HX1.out.alloc _)
  replace HRBB := hide (show Blk W2 RB 29 #[.int .i64 0, .int .i64 0, .int .i64 0] from hW2 ▸ HRBB.out.alloc _)
  replace HBD := hide (show Blk W2 BD 38 #[.string dn, .int .i64 R, .int .i64 dt] from hW2 ▸ HBD.out.alloc _)
  rw [← hW2, ← hBV]
  clear hW2 hBV
  have q0 := HBV.out.cell 0
  have q1 := HBV.out.cell 1
  have q2 := HBV.out.cell 2
  simp at q0 q1 q2
  have ql := HBV.out.lt
  have d1 := HBD.out.cell 1
  simp at d1
  have dl := HBD.out.lt
  refine wp_region_x_tail 19 (by kernel_rfl) (by kernel_rfl) ?_
  simp only [List.take_succ_cons, List.take_zero, List.drop_succ_cons, List.drop_zero]
  repeat (go_big_quiet_step (fail))
  go_big_quiet_step ((go_at_call 65; exact call_x (HN0.out _)))
  repeat (go_big_quiet_step (fail))
  go_big_quiet_step ((go_at_call 65; exact call_x (HN1.out _)))
  repeat (go_big_quiet_step (fail))
  go_big_quiet_step ((go_at_call 65; exact call_x (HN2.out _)))
  repeat (go_big_quiet_step (fail))
  refine wpQuiet_nil ?_
  rintro _ ⟨q, rfl⟩
  have HB := hide (HRBB.out.x ⟨q, rfl⟩)
  have HXQ := hide (HX2.out.trans ⟨q, rfl⟩)
  clear q0 q1 q2 ql d1 dl HRBB HBV HX2
  generalize xt W2 q = V at *
  have f0 := HB.out.cell 0
  have f1 := HB.out.cell 1
  have f2 := HB.out.cell 2
  have z0 := HB.out.frozen 0
  have z1 := HB.out.frozen 1
  have z2 := HB.out.frozen 2
  have hlt5 := HB.out.lt
  simp at f0 f1 f2
  go_wp2
  have hX6 : IsX w (((V.setCell ⟨RB, 0, none⟩ (.int .i64 (divR p0 1000000))).setCell ⟨RB, 1, none⟩ (.int .i64 (divR p1 1000000))).setCell ⟨RB, 2, none⟩ (.int .i64 (divR p2 1000000))) :=
    IsX.setCell (a := ⟨RB, 2, none⟩) (IsX.setCell (a := ⟨RB, 1, none⟩) (IsX.setCell (a := ⟨RB, 0, none⟩) HXQ.out HRB.out _) HRB.out _) HRB.out _
  have hB6 := ((HB.out.set_ 0 (.int .i64 (divR p0 1000000))).set_ 1 (.int .i64 (divR p1 1000000))).set_ 2 (.int .i64 (divR p2 1000000))
  clear f0 f1 f2 z0 z1 z2
  generalize ((V.setCell ⟨RB, 0, none⟩ (.int .i64 (divR p0 1000000))).setCell ⟨RB, 1, none⟩ (.int .i64 (divR p1 1000000))).setCell ⟨RB, 2, none⟩ (.int .i64 (divR p2 1000000)) = V6 at *
  have r0 := hB6.cell 0
  have r1 := hB6.cell 1
  have r2 := hB6.cell 2
  simp at r0 r1 r2
  exact bodyPost_ret (v := .agg #[.int .i64 (divR p0 1000000), .int .i64 (divR p1 1000000), .int .i64 (divR p2 1000000)]) (by simp [results, Tryz.results133, go_sem, r0, r1, r2]) rfl ⟨by rw [HD.out], hX6⟩

set_option maxHeartbeats 6400000 in
set_option maxRecDepth 100000 in
theorem c_l09Point (b : Nat) (R az al : Int) (w : World) (hR : 0 ≤ R ∧ R ≤ 30000) (haz : -100000000 ≤ az ∧ az ≤ 100000000) (hal : angI al) (hbd : b < w.heap.size) (hbc : w.cell? ⟨b, 1, none⟩ = some (.int .i64 R)) : Calls Tryz.prog 152 #[.pointer (some ⟨b, 0, none⟩), .int .i64 az, .int .i64 al] w fun e w' => e = .returned (pointZ R az al).val ∧ IsX w w' := by
  have HNO := hide (fun (V : World) => c_l02Normal (90000 - az) V (by omega))
  have HDI := hide (fun (V : World) => c_l04Direction ((90000 - az) % 360000) al V (angI_norm _) hal)
  have HBC := hide (show ∀ V, IsX w V → V.cell? ⟨b, 1, none⟩ = some (.int .i64 R) ∧ b < V.heap.size from fun V hV => ⟨keep hV hbd hbc, Nat.lt_of_lt_of_le hbd hV.size⟩)
  have HPZ := hide (show pointZ R az al = ⟨nearM (R * (dirZ ((90000 - az) % 360000) al).x), nearM (R * (dirZ ((90000 - az) % 360000) al).y), nearM (R * (dirZ ((90000 - az) % 360000) al).z)⟩ from rfl)
  have hdb := dirZ_bd ((90000 - az) % 360000) al
  generalize dirZ ((90000 - az) % 360000) al = v at *
  generalize (90000 - az) % 360000 = na at *
  generalize pointZ R az al = pz at *
  obtain ⟨v0, v1, v2⟩ := v
  obtain ⟨hv0, hv1, hv2⟩ := hdb
  simp only at hv0 hv1 hv2 HPZ
  have hRb : -30000 ≤ R ∧ R ≤ 30000 := by omega
  have m0 := mul_bd2 hRb hv0
  obtain ⟨p0, hp0⟩ : ∃ p, p = R * v0 := ⟨_, rfl⟩
  rw [← hp0] at m0
  have e0 : R * v0 = p0 := hp0.symm
  have m1 := mul_bd2 hRb hv1
  obtain ⟨p1, hp1⟩ : ∃ p, p = R * v1 := ⟨_, rfl⟩
  rw [← hp1] at m1
  have e1 : R * v1 = p1 := hp1.symm
  have m2 := mul_bd2 hRb hv2
  obtain ⟨p2, hp2⟩ : ∃ p, p = R * v2 := ⟨_, rfl⟩
  rw [← hp2] at m2
  have e2 : R * v2 = p2 := hp2.symm
  have HN0 := hide (fun (V : World) => c_l01Div p0 1000000 V (by omega) (by omega))
  have HN1 := hide (fun (V : World) => c_l01Div p1 1000000 V (by omega) (by omega))
  have HN2 := hide (fun (V : World) => c_l01Div p2 1000000 V (by omega) (by omega))
  have HD := hide (show pz.val = .agg #[.int .i64 (divR p0 1000000), .int .i64 (divR p1 1000000), .int .i64 (divR p2 1000000)] by rw [HPZ.out, hp0, hp1, hp2]; rfl)
  simp only [V3.val, domV] at HDI ⊢
  simp only [V3.val] at HD
  clear hp0 hp1 hp2 HPZ hal hbd hbc
  obtain ⟨W0, hW0⟩ : ∃ W, W = (w.alloc (.cells #[.int .i64 0, .int .i64 0, .int .i64 0] 29)) := ⟨_, rfl⟩
  obtain ⟨RB, hRB⟩ : ∃ B, B = w.heap.size := ⟨_, rfl⟩
  have HRBB := hide (show Blk W0 RB 29 #[.int .i64 0, .int .i64 0, .int .i64 0] from by rw [hW0, hRB]; have h := (Blk.new w 29 #[.int .i64 0, .int .i64 0, .int .i64 0]); simpa using h)
  have HX0 := hide (show IsX w W0 from by rw [hW0]; exact (IsX.refl w).alloc _)
  have HRB : Hid (w.heap.size ≤ RB) := hide (by omega)
  go_enter Tryz.func152, Tryz.ntmps152
  go_wp2_with fail
  (try simp only [World.size_alloc, Nat.add_assoc, Nat.reduceAdd])
  rw [← hW0]
  simp only [← hRB]
  clear hW0 hRB
  refine (HNO.out _).mono ?_
  rintro e w1 ⟨rfl, rfl⟩
  go_wp2_with fail
  refine (HDI.out _).mono ?_
  rintro e w1 ⟨rfl, hx⟩
  have HX1 := hide (HX0.out.trans hx)
  replace HRBB := hide (HRBB.out.x hx)
  clear hx
  go_wp2_with fail
  obtain ⟨W2, hW2⟩ : ∃ W, W = w1.alloc (.cells #[.int .i64 v0, .int .i64 v1, .int .i64 v2] 29) := ⟨_, rfl⟩
  obtain ⟨BV, hBV⟩ : ∃ B, B = w1.heap.size := ⟨_, rfl⟩
  have HBV := hide (show Blk W2 BV 29 #[.int .i64 v0, .int .i64 v1, .int .i64 v2] from by rw [hW2, hBV]; exact Blk.new _ _ _)
  have HX2 := hide (show IsX w W2 from hW2 ▸ HX1.out.alloc _)
  replace HRBB := hide (show Blk W2 RB 29 #[.int .i64 0, .int .i64 0, .int .i64 0] from hW2 ▸ HRBB.out.alloc _)
  rw [← hW2, ← hBV]
  clear hW2 hBV
  have q0 := HBV.out.cell 0
  have q1 := HBV.out.cell 1
  have q2 := HBV.out.cell 2
  simp at q0 q1 q2
  have ql := HBV.out.lt
  obtain ⟨d1, dl⟩ := HBC.out W2 HX2.out
  refine wp_region_x_tail 25 (by kernel_rfl) (by kernel_rfl) ?_
  simp only [List.take_succ_cons, List.take_zero, List.drop_succ_cons, List.drop_zero]
  repeat (go_big_quiet_step (fail))
  go_big_quiet_step ((go_at_call 92; exact call_q (HN0.out _)))
  repeat (go_big_quiet_step (fail))
  go_big_quiet_step ((go_at_call 92; exact call_q (HN1.out _)))
  repeat (go_big_quiet_step (fail))
  go_big_quiet_step ((go_at_call 92; exact call_q (HN2.out _)))
  repeat (go_big_quiet_step (fail))
  refine wpQuiet_nil ?_
  rintro _ ⟨q, rfl⟩
  have HB := hide (HRBB.out.x ⟨q, rfl⟩)
  have HXQ := hide (HX2.out.trans ⟨q, rfl⟩)
  clear q0 q1 q2 ql d1 dl HRBB HBV HX2
  generalize xt W2 q = V at *
  have f0 := HB.out.cell 0
  have f1 := HB.out.cell 1
  have f2 := HB.out.cell 2
  have z0 := HB.out.frozen 0
  have z1 := HB.out.frozen 1
  have z2 := HB.out.frozen 2
  have hlt5 := HB.out.lt
  simp at f0 f1 f2
  go_wp2
  have hX6 : IsX w (((V.setCell ⟨RB, 0, none⟩ (.int .i64 (divR p0 1000000))).setCell ⟨RB, 1, none⟩ (.int .i64 (divR p1 1000000))).setCell ⟨RB, 2, none⟩ (.int .i64 (divR p2 1000000))) :=
    IsX.setCell (a := ⟨RB, 2, none⟩) (IsX.setCell (a := ⟨RB, 1, none⟩) (IsX.setCell (a := ⟨RB, 0, none⟩) HXQ.out HRB.out _) HRB.out _) HRB.out _
  have hB6 := ((HB.out.set_ 0 (.int .i64 (divR p0 1000000))).set_ 1 (.int .i64 (divR p1 1000000))).set_ 2 (.int .i64 (divR p2 1000000))
  clear f0 f1 f2 z0 z1 z2
  generalize ((V.setCell ⟨RB, 0, none⟩ (.int .i64 (divR p0 1000000))).setCell ⟨RB, 1, none⟩ (.int .i64 (divR p1 1000000))).setCell ⟨RB, 2, none⟩ (.int .i64 (divR p2 1000000)) = V6 at *
  have r0 := hB6.cell 0
  have r1 := hB6.cell 1
  have r2 := hB6.cell 2
  simp at r0 r1 r2
  exact bodyPost_ret (v := .agg #[.int .i64 (divR p0 1000000), .int .i64 (divR p1 1000000), .int .i64 (divR p2 1000000)]) (by simp [results, Tryz.results152, go_sem, r0, r1, r2]) rfl ⟨by rw [HD.out], hX6⟩

end Go.Proofs.YtfcfgkkkepifhaaGreatDoor

/- DomeG -/
namespace Go.Proofs.YtfcfgkkkepifhaaGreatDoor
set_option linter.unusedVariables false
open Go.RowKit



set_option maxHeartbeats 6400000 in
set_option maxRecDepth 100000 in
theorem c_domeAngles (v : V3) (w : World) (hv : v.in_ 62100) (HTAB : ∀ W, IsX w W → sinTab W) : Calls Tryz.prog 100 #[v.val] w fun e w' => e = .returned (.tuple #[.int .i64 ((90000 - lonZ v) % 360000), .int .i64 (latZ v)]) ∧ IsX w w' := by
  obtain ⟨x, y, z⟩ := v
  obtain ⟨h0, h1, h2⟩ := hv
  simp only at h0 h1 h2
  have m0 := sq_bd h0
  have m1 := sq_bd h1
  obtain ⟨p0, hp0⟩ : ∃ p, p = x * x := ⟨_, rfl⟩
  obtain ⟨p1, hp1⟩ : ∃ p, p = y * y := ⟨_, rfl⟩
  have HLA := hide (show latR ⟨x, y, z⟩ = arcZ z (rootZ (p0 + p1)) by rw [hp0, hp1]; rfl)
  rw [← hp0] at m0
  rw [← hp1] at m1
  have e0 : x * x = p0 := hp0.symm
  have e1 : y * y = p1 := hp1.symm
  have hr0 := rootZ_nn (p0 + p1)
  have hr1 : rootZ (p0 + p1) ≤ 100000 := rootZ_le (by omega) (by omega)
  have HRO := hide (fun (V : World) => c_RootOf (p0 + p1) V (by omega) (by omega))
  have HA2 := hide (fun V (hV : IsX w V) => c_ArcTangent z (rootZ (p0 + p1)) V (by unfold smallI; omega) (by unfold smallI; omega) (fun U hU => HTAB U (hV.trans hU)))
  have HA1 := hide (fun V (hV : IsX w V) => c_ArcTangent y x V (by unfold smallI; omega) (by unfold smallI; omega) (fun U hU => HTAB U (hV.trans hU)))
  generalize rootZ (p0 + p1) = rr at *
  have hlab := arcZ_bd z rr
  have HLZ := hide (show (90000 < arcZ z rr → latZ ⟨x, y, z⟩ = arcZ z rr - 360000) ∧ (¬ 90000 < arcZ z rr → latZ ⟨x, y, z⟩ = arcZ z rr) from ⟨fun h => by unfold latZ; rw [HLA.out, if_pos h], fun h => by unfold latZ; rw [HLA.out, if_neg h]⟩)
  obtain ⟨t, ht⟩ : ∃ t : Bool, t = (!(decide (x = 0) && decide (y = 0))) := ⟨_, rfl⟩
  have HT := hide ht
  have HLO := hide (show (t = true → lonZ ⟨x, y, z⟩ = arcZ y x) ∧ (t = false → lonZ ⟨x, y, z⟩ = 0) from ⟨fun h => by
    rw [ht, Bool.not_eq_true', Bool.and_eq_false_iff, decide_eq_false_iff_not, decide_eq_false_iff_not] at h
    unfold lonZ; rw [if_neg (fun hc => by rcases h with h | h; exact h hc.1; exact h hc.2)], fun h => by
    rw [ht, Bool.not_eq_false', Bool.and_eq_true, decide_eq_true_eq, decide_eq_true_eq] at h
    unfold lonZ; rw [if_pos h]⟩)
  have hlob := arcZ_bd y x
  generalize latZ ⟨x, y, z⟩ = lat at *
  generalize lonZ ⟨x, y, z⟩ = lon at *
  simp only [V3.val]
  clear hp0 hp1 HLA ht HTAB
  obtain ⟨W0, hW0⟩ : ∃ W, W = (w.alloc (.cells #[.int .i64 x, .int .i64 y, .int .i64 z] 29)) := ⟨_, rfl⟩
  obtain ⟨BA, hBA⟩ : ∃ B, B = w.heap.size := ⟨_, rfl⟩
  have HBA := hide (show Blk W0 BA 29 #[.int .i64 x, .int .i64 y, .int .i64 z] from by rw [hW0, hBA]; have h := (Blk.new w 29 #[.int .i64 x, .int .i64 y, .int .i64 z]); simpa using h)
  have HX0 := hide (show IsX w W0 from by rw [hW0]; exact (IsX.refl w).alloc _)
  go_enter Tryz.func100, Tryz.ntmps100
  go_upto_region 2 with fail
  (try simp only [World.size_alloc, Nat.add_assoc, Nat.reduceAdd])
  rw [← hW0]
  simp only [← hBA]
  clear hW0 hBA
  have q0 := HBA.out.cell 0
  have q1 := HBA.out.cell 1
  have q2 := HBA.out.cell 2
  simp at q0 q1 q2
  have ql := HBA.out.lt
  go_cut [14] from 7 to 14 (fun s wc => s = .bool t ∧ W0 = wc)
  case first =>
    by_cases hx : x = 0
    · subst hx
      by_cases hy : y = 0
      · subst hy
        go_wp2_with fail
        all_goals
          go_meet
          exact ⟨congrArg Value.bool (by rw [HT.out]; simp), rfl⟩
      · go_wp2_with fail
        all_goals
          go_meet
          exact ⟨congrArg Value.bool (by rw [HT.out]; simp [hy]), rfl⟩
    · go_wp2_with fail
      all_goals
        go_meet
        exact ⟨congrArg Value.bool (by rw [HT.out]; simp [hx]), rfl⟩
  obtain ⟨rfl, rfl⟩ := hcut
  go_upto_if 14 with fail
  cases t
  · have HLON := hide (HLO.out.2 rfl)
    go_wp2_with fail
    refine wp_region_x (by kernel_rfl) (by kernel_rfl) ?_
    repeat (go_big_quiet_step (fail))
    go_big_quiet_step ((go_at_call 132; exact call_q (HRO.out _)))
    repeat (go_big_quiet_step (fail))
    go_big_quiet_step ((go_at_call 131; exact call_x (HA2.out _ (HX0.out.trans ⟨_, rfl⟩))))
    repeat (go_big_quiet_step (fail))
    refine wpQuiet_nil ?_
    rintro _ ⟨qq, rfl⟩
    have HXQ := hide (HX0.out.trans ⟨qq, rfl⟩)
    clear q0 q1 q2 ql HBA
    clear HRO HA2 HA1 e0 e1 m0 m1
    generalize xt W0 qq = VQ at *
    generalize arcZ z rr = la at *
    by_cases hgt : 90000 < la
    · have HL := hide (HLZ.out.1 (by omega))
      have hgz : la > 90000 := hgt
      have HNO := hide (fun (V : World) => c_NormalAngle (90000 - 0) V (by omega))
      go_wp2_with fail
      refine (HNO.out _).mono ?_
      rintro e w9 ⟨rfl, rfl⟩
      go_wp2_with fail
      go_ret2
      exact ⟨by rw [HL.out, HLON.out]; rfl, HXQ.out⟩
    · have HL := hide (HLZ.out.2 (by omega))
      have hgz : ¬ la > 90000 := hgt
      have HNO := hide (fun (V : World) => c_NormalAngle (90000 - 0) V (by omega))
      go_wp2_with fail
      refine (HNO.out _).mono ?_
      rintro e w9 ⟨rfl, rfl⟩
      go_wp2_with fail
      go_ret2
      exact ⟨by rw [HL.out, HLON.out]; rfl, HXQ.out⟩
  · have HLON := hide (HLO.out.1 rfl)
    have HA1' := hide (HA1.out W0 HX0.out)
    generalize arcZ y x = al at *
    go_wp2_with fail
    refine HA1'.out.mono ?_
    rintro e w1 ⟨rfl, hx⟩
    have HX1 := hide (HX0.out.trans hx)
    replace HBA := hide (HBA.out.x hx)
    clear hx q0 q1 q2 ql HA1'
    have q0 := HBA.out.cell 0
    have q1 := HBA.out.cell 1
    have q2 := HBA.out.cell 2
    simp at q0 q1 q2
    have ql := HBA.out.lt
    go_wp2_with fail
    refine wp_region_x (by kernel_rfl) (by kernel_rfl) ?_
    repeat (go_big_quiet_step (fail))
    go_big_quiet_step ((go_at_call 132; exact call_q (HRO.out _)))
    repeat (go_big_quiet_step (fail))
    go_big_quiet_step ((go_at_call 131; exact call_x (HA2.out _ (HX1.out.trans ⟨_, rfl⟩))))
    repeat (go_big_quiet_step (fail))
    refine wpQuiet_nil ?_
    rintro _ ⟨qq, rfl⟩
    have HXQ := hide (HX1.out.trans ⟨qq, rfl⟩)
    clear q0 q1 q2 ql HBA
    clear HRO HA2 HA1 e0 e1 m0 m1
    generalize xt w1 qq = VQ at *
    generalize arcZ z rr = la at *
    by_cases hgt : 90000 < la
    · have HL := hide (HLZ.out.1 (by omega))
      have hgz : la > 90000 := hgt
      have HNO := hide (fun (V : World) => c_NormalAngle (90000 - al) V (by omega))
      go_wp2_with fail
      refine (HNO.out _).mono ?_
      rintro e w9 ⟨rfl, rfl⟩
      go_wp2_with fail
      go_ret2
      exact ⟨by rw [HL.out, HLON.out]; rfl, HXQ.out⟩
    · have HL := hide (HLZ.out.2 (by omega))
      have hgz : ¬ la > 90000 := hgt
      have HNO := hide (fun (V : World) => c_NormalAngle (90000 - al) V (by omega))
      go_wp2_with fail
      refine (HNO.out _).mono ?_
      rintro e w9 ⟨rfl, rfl⟩
      go_wp2_with fail
      go_ret2
      exact ⟨by rw [HL.out, HLON.out]; rfl, HXQ.out⟩

set_option maxHeartbeats 6400000 in
set_option maxRecDepth 100000 in
theorem c_l04Angles (v : V3) (w : World) (hv : v.in_ 62100) : Calls Tryz.prog 153 #[v.val] w fun e w' => e = .returned (.tuple #[.int .i64 (lonZ v), .int .i64 (latZ v)]) ∧ IsX w w' := by
  obtain ⟨x, y, z⟩ := v
  obtain ⟨h0, h1, h2⟩ := hv
  simp only at h0 h1 h2
  have m0 := sq_bd h0
  have m1 := sq_bd h1
  obtain ⟨p0, hp0⟩ : ∃ p, p = x * x := ⟨_, rfl⟩
  obtain ⟨p1, hp1⟩ : ∃ p, p = y * y := ⟨_, rfl⟩
  have HLA := hide (show latR ⟨x, y, z⟩ = arcZ z (rootZ (p0 + p1)) by rw [hp0, hp1]; rfl)
  rw [← hp0] at m0
  rw [← hp1] at m1
  have e0 : x * x = p0 := hp0.symm
  have e1 : y * y = p1 := hp1.symm
  have hr0 := rootZ_nn (p0 + p1)
  have hr1 : rootZ (p0 + p1) ≤ 100000 := rootZ_le (by omega) (by omega)
  have HRO := hide (fun (V : World) => c_l01Root (p0 + p1) V (by omega) (by omega))
  have HA2 := hide (fun V (hV : IsX w V) => c_l02Arc z (rootZ (p0 + p1)) V (by unfold smallI; omega) (by unfold smallI; omega))
  have HA1 := hide (fun V (hV : IsX w V) => c_l02Arc y x V (by unfold smallI; omega) (by unfold smallI; omega))
  generalize rootZ (p0 + p1) = rr at *
  have hlab := arcZ_bd z rr
  have HLZ := hide (show (90000 < arcZ z rr → latZ ⟨x, y, z⟩ = arcZ z rr - 360000) ∧ (¬ 90000 < arcZ z rr → latZ ⟨x, y, z⟩ = arcZ z rr) from ⟨fun h => by unfold latZ; rw [HLA.out, if_pos h], fun h => by unfold latZ; rw [HLA.out, if_neg h]⟩)
  obtain ⟨t, ht⟩ : ∃ t : Bool, t = (!(decide (x = 0) && decide (y = 0))) := ⟨_, rfl⟩
  have HT := hide ht
  have HLO := hide (show (t = true → lonZ ⟨x, y, z⟩ = arcZ y x) ∧ (t = false → lonZ ⟨x, y, z⟩ = 0) from ⟨fun h => by
    rw [ht, Bool.not_eq_true', Bool.and_eq_false_iff, decide_eq_false_iff_not, decide_eq_false_iff_not] at h
    unfold lonZ; rw [if_neg (fun hc => by rcases h with h | h; exact h hc.1; exact h hc.2)], fun h => by
    rw [ht, Bool.not_eq_false', Bool.and_eq_true, decide_eq_true_eq, decide_eq_true_eq] at h
    unfold lonZ; rw [if_pos h]⟩)
  have hlob := arcZ_bd y x
  generalize latZ ⟨x, y, z⟩ = lat at *
  generalize lonZ ⟨x, y, z⟩ = lon at *
  simp only [V3.val]
  clear hp0 hp1 HLA ht
  obtain ⟨W0, hW0⟩ : ∃ W, W = (w.alloc (.cells #[.int .i64 x, .int .i64 y, .int .i64 z] 29)) := ⟨_, rfl⟩
  obtain ⟨BA, hBA⟩ : ∃ B, B = w.heap.size := ⟨_, rfl⟩
  have HBA := hide (show Blk W0 BA 29 #[.int .i64 x, .int .i64 y, .int .i64 z] from by rw [hW0, hBA]; have h := (Blk.new w 29 #[.int .i64 x, .int .i64 y, .int .i64 z]); simpa using h)
  have HX0 := hide (show IsX w W0 from by rw [hW0]; exact (IsX.refl w).alloc _)
  go_enter Tryz.func153, Tryz.ntmps153
  go_upto_region 2 with fail
  (try simp only [World.size_alloc, Nat.add_assoc, Nat.reduceAdd])
  rw [← hW0]
  simp only [← hBA]
  clear hW0 hBA
  have q0 := HBA.out.cell 0
  have q1 := HBA.out.cell 1
  have q2 := HBA.out.cell 2
  simp at q0 q1 q2
  have ql := HBA.out.lt
  go_cut [13] from 6 to 13 (fun s wc => s = .bool t ∧ W0 = wc)
  case first =>
    by_cases hx : x = 0
    · subst hx
      by_cases hy : y = 0
      · subst hy
        go_wp2_with fail
        all_goals
          go_meet
          exact ⟨congrArg Value.bool (by rw [HT.out]; simp), rfl⟩
      · go_wp2_with fail
        all_goals
          go_meet
          exact ⟨congrArg Value.bool (by rw [HT.out]; simp [hy]), rfl⟩
    · go_wp2_with fail
      all_goals
        go_meet
        exact ⟨congrArg Value.bool (by rw [HT.out]; simp [hx]), rfl⟩
  obtain ⟨rfl, rfl⟩ := hcut
  go_upto_if 13 with fail
  cases t
  · have HLON := hide (HLO.out.2 rfl)
    go_wp2_with fail
    refine wp_region_x (by kernel_rfl) (by kernel_rfl) ?_
    repeat (go_big_quiet_step (fail))
    go_big_quiet_step ((go_at_call 38; exact call_q (HRO.out _)))
    repeat (go_big_quiet_step (fail))
    go_big_quiet_step ((go_at_call 178; exact call_x (HA2.out _ (HX0.out.trans ⟨_, rfl⟩))))
    repeat (go_big_quiet_step (fail))
    refine wpQuiet_nil ?_
    rintro _ ⟨qq, rfl⟩
    have HXQ := hide (HX0.out.trans ⟨qq, rfl⟩)
    clear q0 q1 q2 ql HBA
    clear HRO HA2 HA1 e0 e1 m0 m1
    generalize xt W0 qq = VQ at *
    generalize arcZ z rr = la at *
    by_cases hgt : 90000 < la
    · have HL := hide (HLZ.out.1 (by omega))
      have hgz : la > 90000 := hgt
      go_wp2_with fail
      go_ret2
      exact ⟨by rw [HL.out, HLON.out]; rfl, HXQ.out⟩
    · have HL := hide (HLZ.out.2 (by omega))
      have hgz : ¬ la > 90000 := hgt
      go_wp2_with fail
      go_ret2
      exact ⟨by rw [HL.out, HLON.out]; rfl, HXQ.out⟩
  · have HLON := hide (HLO.out.1 rfl)
    have HA1' := hide (HA1.out W0 HX0.out)
    generalize arcZ y x = al at *
    go_wp2_with fail
    refine HA1'.out.mono ?_
    rintro e w1 ⟨rfl, hx⟩
    have HX1 := hide (HX0.out.trans hx)
    replace HBA := hide (HBA.out.x hx)
    clear hx q0 q1 q2 ql HA1'
    have q0 := HBA.out.cell 0
    have q1 := HBA.out.cell 1
    have q2 := HBA.out.cell 2
    simp at q0 q1 q2
    have ql := HBA.out.lt
    go_wp2_with fail
    refine wp_region_x (by kernel_rfl) (by kernel_rfl) ?_
    repeat (go_big_quiet_step (fail))
    go_big_quiet_step ((go_at_call 38; exact call_q (HRO.out _)))
    repeat (go_big_quiet_step (fail))
    go_big_quiet_step ((go_at_call 178; exact call_x (HA2.out _ (HX1.out.trans ⟨_, rfl⟩))))
    repeat (go_big_quiet_step (fail))
    refine wpQuiet_nil ?_
    rintro _ ⟨qq, rfl⟩
    have HXQ := hide (HX1.out.trans ⟨qq, rfl⟩)
    clear q0 q1 q2 ql HBA
    clear HRO HA2 HA1 e0 e1 m0 m1
    generalize xt w1 qq = VQ at *
    generalize arcZ z rr = la at *
    by_cases hgt : 90000 < la
    · have HL := hide (HLZ.out.1 (by omega))
      have hgz : la > 90000 := hgt
      go_wp2_with fail
      go_ret2
      exact ⟨by rw [HL.out, HLON.out]; rfl, HXQ.out⟩
    · have HL := hide (HLZ.out.2 (by omega))
      have hgz : ¬ la > 90000 := hgt
      go_wp2_with fail
      go_ret2
      exact ⟨by rw [HL.out, HLON.out]; rfl, HXQ.out⟩

end Go.Proofs.YtfcfgkkkepifhaaGreatDoor

/- DomeH -/
namespace Go.Proofs.YtfcfgkkkepifhaaGreatDoor
set_option linter.unusedVariables false
open Go.RowKit

set_option maxHeartbeats 6400000 in
set_option maxRecDepth 100000 in
theorem c_viewOf (dn : ByteArray) (R dt : Int) (s : V3) (az al : Int) (w : World) (hR : 0 ≤ R ∧ R ≤ 30000) (hs : s.in_ 30000) (haz : -100000000 ≤ az ∧ az ≤ 100000000) (hal : angI al) (HTAB : ∀ W, IsX w W → sinTab W) : Calls Tryz.prog 101 #[domV dn R dt, s.val, .int .i64 az, .int .i64 al] w fun e w' => e = .returned (viewZ R s az al).val ∧ IsX w w' := by
  have HPO := hide (fun V (hV : IsX w V) => c_domePoint dn R dt az al V hR haz hal (fun U hU => HTAB U (hV.trans hU)))
  have hpb := pointZ_bd (R := R) (az := az) (al := al) hR
  obtain ⟨s0, s1, s2⟩ := s
  have HVZ := hide (show viewZ R ⟨s0, s1, s2⟩ az al = ⟨(pointZ R az al).x - s0, (pointZ R az al).y - s1, (pointZ R az al).z - s2⟩ from rfl)
  generalize pointZ R az al = pz at *
  generalize viewZ R ⟨s0, s1, s2⟩ az al = vz at *
  obtain ⟨p0, p1, p2⟩ := pz
  obtain ⟨h0, h1, h2⟩ := hs
  obtain ⟨g0, g1, g2⟩ := hpb
  simp only at h0 h1 h2 g0 g1 g2 HVZ
  have HD := hide (show vz.val = .agg #[.int .i64 (p0 - s0), .int .i64 (p1 - s1), .int .i64 (p2 - s2)] by rw [HVZ.out]; rfl)
  simp only [V3.val, domV] at HPO ⊢
  simp only [V3.val] at HD
  clear HVZ hal HTAB
  obtain ⟨W0, hW0⟩ : ∃ W, W = (((w.alloc (.cells #[.string dn, .int .i64 R, .int .i64 dt] 38)).alloc (.cells #[.int .i64 s0, .int .i64 s1, .int .i64 s2] 29)).alloc (.cells #[.int .i64 0, .int .i64 0, .int .i64 0] 29)) := ⟨_, rfl⟩
  obtain ⟨BD, hBD⟩ : ∃ B, B = w.heap.size := ⟨_, rfl⟩
  have HBD := hide (show Blk W0 BD 38 #[.string dn, .int .i64 R, .int .i64 dt] from by rw [hW0, hBD]; have h := (((Blk.new w 38 #[.string dn, .int .i64 R, .int .i64 dt]).alloc (.cells #[.int .i64 s0, .int .i64 s1, .int .i64 s2] 29)).alloc (.cells #[.int .i64 0, .int .i64 0, .int .i64 0] 29)); simpa using h)
  obtain ⟨BS, hBS⟩ : ∃ B, B = BD + 1 := ⟨_, rfl⟩
  have HBS := hide (show Blk W0 BS 29 #[.int .i64 s0, .int .i64 s1, .int .i64 s2] from by rw [hW0, hBS, hBD]; have h := ((Blk.new (w.alloc (.cells #[.string dn, .int .i64 R, .int .i64 dt] 38)) 29 #[.int .i64 s0, .int .i64 s1, .int .i64 s2]).alloc (.cells #[.int .i64 0, .int .i64 0, .int .i64 0] 29)); simpa using h)
  obtain ⟨RB, hRB⟩ : ∃ B, B = BD + 2 := ⟨_, rfl⟩
  have HRBB := hide (show Blk W0 RB 29 #[.int .i64 0, .int .i64 0, .int .i64 0] from by rw [hW0, hRB, hBD]; have h := (Blk.new ((w.alloc (.cells #[.string dn, .int .i64 R, .int .i64 dt] 38)).alloc (.cells #[.int .i64 s0, .int .i64 s1, .int .i64 s2] 29)) 29 #[.int .i64 0, .int .i64 0, .int .i64 0]); simpa using h)
  have HX0 := hide (show IsX w W0 from by rw [hW0]; exact (((IsX.refl w).alloc _).alloc _).alloc _)
  have HRB : Hid (w.heap.size ≤ RB) := hide (by omega)
  go_enter Tryz.func101, Tryz.ntmps101
  go_wp2_with fail
  (try simp only [World.size_alloc, Nat.add_assoc, Nat.reduceAdd])
  rw [← hW0]
  simp only [← hBD, ← hBS, ← hRB]
  clear hW0 hBD hBS hRB
  refine (HPO.out _ HX0.out).mono ?_
  rintro e w1 ⟨rfl, hx⟩
  have HX1 := hide (HX0.out.trans hx)
  replace HRBB := hide (HRBB.out.x hx)
  replace HBS := hide (HBS.out.x hx)
  clear hx HBD
  have q0 := HBS.out.cell 0
  have q1 := HBS.out.cell 1
  have q2 := HBS.out.cell 2
  simp at q0 q1 q2
  have ql := HBS.out.lt
  have f0 := HRBB.out.cell 0
  have f1 := HRBB.out.cell 1
  have f2 := HRBB.out.cell 2
  have z0 := HRBB.out.frozen 0
  have z1 := HRBB.out.frozen 1
  have z2 := HRBB.out.frozen 2
  have hlt5 := HRBB.out.lt
  simp at f0 f1 f2
  go_wp2_with fail
  have hX6 : IsX w (((w1.setCell ⟨RB, 0, none⟩ (.int .i64 (p0 - s0))).setCell ⟨RB, 1, none⟩ (.int .i64 (p1 - s1))).setCell ⟨RB, 2, none⟩ (.int .i64 (p2 - s2))) :=
    IsX.setCell (a := ⟨RB, 2, none⟩) (IsX.setCell (a := ⟨RB, 1, none⟩) (IsX.setCell (a := ⟨RB, 0, none⟩) HX1.out HRB.out _) HRB.out _) HRB.out _
  have hB6 := ((HRBB.out.set_ 0 (.int .i64 (p0 - s0))).set_ 1 (.int .i64 (p1 - s1))).set_ 2 (.int .i64 (p2 - s2))
  clear f0 f1 f2 z0 z1 z2 q0 q1 q2 ql
  generalize ((w1.setCell ⟨RB, 0, none⟩ (.int .i64 (p0 - s0))).setCell ⟨RB, 1, none⟩ (.int .i64 (p1 - s1))).setCell ⟨RB, 2, none⟩ (.int .i64 (p2 - s2)) = V6 at *
  have hX7 := hX6.alloc (.cells #[.int .i64 p0, .int .i64 p1, .int .i64 p2] 29)
  have hB7 := hB6.alloc (.cells #[.int .i64 p0, .int .i64 p1, .int .i64 p2] 29)
  generalize V6.alloc (.cells #[.int .i64 p0, .int .i64 p1, .int .i64 p2] 29) = V7 at *
  have r0 := hB7.cell 0
  have r1 := hB7.cell 1
  have r2 := hB7.cell 2
  simp at r0 r1 r2
  exact bodyPost_ret (v := .agg #[.int .i64 (p0 - s0), .int .i64 (p1 - s1), .int .i64 (p2 - s2)]) (by simp [results, Tryz.results101, go_sem, r0, r1, r2]) rfl ⟨by rw [HD.out], hX7⟩

set_option maxHeartbeats 6400000 in
set_option maxRecDepth 100000 in
theorem c_l09View (b : Nat) (R : Int) (s : V3) (az al : Int) (w : World) (hR : 0 ≤ R ∧ R ≤ 30000) (hs : s.in_ 30000) (haz : -100000000 ≤ az ∧ az ≤ 100000000) (hal : angI al) (hbd : b < w.heap.size) (hbc : w.cell? ⟨b, 1, none⟩ = some (.int .i64 R)) : Calls Tryz.prog 127 #[.pointer (some ⟨b, 0, none⟩), s.val, .int .i64 az, .int .i64 al] w fun e w' => e = .returned (.tuple #[.int .i64 ((90000 - lonZ (viewZ R s az al)) % 360000), .int .i64 (latZ (viewZ R s az al)), .int .i64 (lenZ (viewZ R s az al))]) ∧ IsX w w' := by
  have HPO := hide (fun V (hV : IsX w V) => c_l09Point b R az al V hR haz hal (Nat.lt_of_lt_of_le hbd hV.size) (keep hV hbd hbc))
  have hpb := pointZ_bd (R := R) (az := az) (al := al) hR
  have hvb := viewZ_bd (R := R) (az := az) (al := al) hR hs
  have HAN := hide (fun (V : World) => c_l04Angles (viewZ R s az al) V hvb)
  have HLE := hide (fun (V : World) => c_l04Length (viewZ R s az al) V ⟨by have := hvb.1; omega, by have := hvb.2.1; omega, by have := hvb.2.2; omega⟩)
  have hlo := lonZ_bd (viewZ R s az al)
  have HNO := hide (fun (V : World) => c_l02Normal (90000 - lonZ (viewZ R s az al)) V (by omega))
  obtain ⟨s0, s1, s2⟩ := s
  have HVZ := hide (show viewZ R ⟨s0, s1, s2⟩ az al = ⟨(pointZ R az al).x - s0, (pointZ R az al).y - s1, (pointZ R az al).z - s2⟩ from rfl)
  generalize pointZ R az al = pz at *
  generalize viewZ R ⟨s0, s1, s2⟩ az al = vz at *
  obtain ⟨p0, p1, p2⟩ := pz
  obtain ⟨h0, h1, h2⟩ := hs
  obtain ⟨g0, g1, g2⟩ := hpb
  simp only at h0 h1 h2 g0 g1 g2 HVZ
  have hvz := HVZ.out
  subst hvz
  obtain ⟨x0, hx0⟩ : ∃ x, x = p0 - s0 := ⟨_, rfl⟩
  obtain ⟨x1, hx1⟩ : ∃ x, x = p1 - s1 := ⟨_, rfl⟩
  obtain ⟨x2, hx2⟩ : ∃ x, x = p2 - s2 := ⟨_, rfl⟩
  have t0 : p0 - s0 = x0 := hx0.symm
  have t1 : p1 - s1 = x1 := hx1.symm
  have t2 : p2 - s2 = x2 := hx2.symm
  rw [← hx0, ← hx1, ← hx2] at HAN HLE HNO hlo hvb ⊢
  generalize lonZ ⟨x0, x1, x2⟩ = lo at *
  generalize latZ ⟨x0, x1, x2⟩ = la at *
  generalize lenZ ⟨x0, x1, x2⟩ = le at *
  simp only [V3.val] at HPO HAN HLE ⊢
  clear HVZ hal hbd hbc hx0 hx1 hx2 hvb
  obtain ⟨W0, hW0⟩ : ∃ W, W = (w.alloc (.cells #[.int .i64 s0, .int .i64 s1, .int .i64 s2] 29)) := ⟨_, rfl⟩
  obtain ⟨BS, hBS⟩ : ∃ B, B = w.heap.size := ⟨_, rfl⟩
  have HBS := hide (show Blk W0 BS 29 #[.int .i64 s0, .int .i64 s1, .int .i64 s2] from by rw [hW0, hBS]; have h := (Blk.new w 29 #[.int .i64 s0, .int .i64 s1, .int .i64 s2]); simpa using h)
  have HX0 := hide (show IsX w W0 from by rw [hW0]; exact (IsX.refl w).alloc _)
  go_enter Tryz.func127, Tryz.ntmps127
  go_wp2_with fail
  (try simp only [World.size_alloc, Nat.add_assoc, Nat.reduceAdd])
  rw [← hW0]
  simp only [← hBS]
  clear hW0 hBS
  refine (HPO.out _ HX0.out).mono ?_
  rintro e w1 ⟨rfl, hx⟩
  have HX1 := hide (HX0.out.trans hx)
  replace HBS := hide (HBS.out.x hx)
  clear hx
  have q0 := HBS.out.cell 0
  have q1 := HBS.out.cell 1
  have q2 := HBS.out.cell 2
  simp at q0 q1 q2
  have ql := HBS.out.lt
  go_wp2_with fail
  obtain ⟨W2, hW2⟩ : ∃ W, W = (w1.alloc (.cells #[.int .i64 p0, .int .i64 p1, .int .i64 p2] 29)).alloc (.cells #[.int .i64 x0, .int .i64 x1, .int .i64 x2] 29) := ⟨_, rfl⟩
  obtain ⟨BV, hBV⟩ : ∃ B, B = w1.heap.size + 1 := ⟨_, rfl⟩
  have HBV := hide (show Blk W2 BV 29 #[.int .i64 x0, .int .i64 x1, .int .i64 x2] from by rw [hW2, hBV]; have h := Blk.new (w1.alloc (.cells #[.int .i64 p0, .int .i64 p1, .int .i64 p2] 29)) 29 #[.int .i64 x0, .int .i64 x1, .int .i64 x2]; simpa using h)
  have HX2 := hide (show IsX w W2 from hW2 ▸ (HX1.out.alloc _).alloc _)
  rw [← hW2, ← hBV]
  clear hW2 hBV q0 q1 q2 ql
  refine (HAN.out _).mono ?_
  rintro e w3 ⟨rfl, hx⟩
  have HX3 := hide (HX2.out.trans hx)
  replace HBV := hide (HBV.out.x hx)
  clear hx
  have q0 := HBV.out.cell 0
  have q1 := HBV.out.cell 1
  have q2 := HBV.out.cell 2
  simp at q0 q1 q2
  have ql := HBV.out.lt
  go_wp2_with fail
  refine wp_region_x (by kernel_rfl) (by kernel_rfl) ?_
  repeat (go_big_quiet_step (fail))
  go_big_quiet_step ((go_at_call 91; exact call_q (HNO.out _)))
  repeat (go_big_quiet_step (fail))
  go_big_quiet_step ((go_at_call 154; exact call_x (HLE.out _)))
  repeat (go_big_quiet_step (fail))
  refine wpQuiet_nil ?_
  rintro _ ⟨qq, rfl⟩
  go_wp2_with fail
  go_ret3
  exact ⟨rfl, HX3.out.trans ⟨qq, rfl⟩⟩

set_option maxHeartbeats 6400000 in
set_option maxRecDepth 100000 in
theorem c_isInside (dn : ByteArray) (R dt : Int) (s : V3) (w : World) (hR : 1000 ≤ R ∧ R ≤ 30000) (hs : s.in_ 100000000) : Calls Tryz.prog 70 #[domV dn R dt, s.val] w fun e w' => e = .returned (.bool (inSeat R s)) ∧ IsX w w' := by
  obtain ⟨s0, s1, s2⟩ := s
  obtain ⟨h0, h1, h2⟩ := hs
  simp only at h0 h1 h2
  obtain ⟨r, hr⟩ : ∃ r, r = R - 1 := ⟨_, rfl⟩
  have tr : R - 1 = r := hr.symm
  have hrb : 999 ≤ r ∧ r ≤ 29999 := by omega
  have HIN := hide (show inSeat R ⟨s0, s1, s2⟩ = (inB s0 (-r) r && inB s1 (-r) r && inB s2 (-r) r && decide (s0 * s0 + s1 * s1 + s2 * s2 < r * r)) by rw [hr]; rfl)
  generalize inSeat R ⟨s0, s1, s2⟩ = ans at *
  simp only [V3.val, domV]
  clear hr
  obtain ⟨W0, hW0⟩ : ∃ W, W = ((w.alloc (.cells #[.string dn, .int .i64 R, .int .i64 dt] 38)).alloc (.cells #[.int .i64 s0, .int .i64 s1, .int .i64 s2] 29)) := ⟨_, rfl⟩
  obtain ⟨BD, hBD⟩ : ∃ B, B = w.heap.size := ⟨_, rfl⟩
  have HBD := hide (show Blk W0 BD 38 #[.string dn, .int .i64 R, .int .i64 dt] from by rw [hW0, hBD]; have h := ((Blk.new w 38 #[.string dn, .int .i64 R, .int .i64 dt]).alloc (.cells #[.int .i64 s0, .int .i64 s1, .int .i64 s2] 29)); simpa using h)
  obtain ⟨BS, hBS⟩ : ∃ B, B = BD + 1 := ⟨_, rfl⟩
  have HBS := hide (show Blk W0 BS 29 #[.int .i64 s0, .int .i64 s1, .int .i64 s2] from by rw [hW0, hBS, hBD]; have h := (Blk.new (w.alloc (.cells #[.string dn, .int .i64 R, .int .i64 dt] 38)) 29 #[.int .i64 s0, .int .i64 s1, .int .i64 s2]); simpa using h)
  have HX0 := hide (show IsX w W0 from by rw [hW0]; exact ((IsX.refl w).alloc _).alloc _)
  have HW0 := hide (fun V : World => c_within s0 (-r) r V)
  have HW1 := hide (fun V : World => c_within s1 (-r) r V)
  have HW2 := hide (fun V : World => c_within s2 (-r) r V)
  go_enter Tryz.func70, Tryz.ntmps70
  go_upto_region 1 with fail
  (try simp only [World.size_alloc, Nat.add_assoc, Nat.reduceAdd])
  rw [← hW0]
  simp only [← hBD, ← hBS]
  clear hW0 hBD hBS
  have d0 := HBD.out.cell 0
  have d1 := HBD.out.cell 1
  have d2 := HBD.out.cell 2
  simp at d0 d1 d2
  have dl := HBD.out.lt
  have q0 := HBS.out.cell 0
  have q1 := HBS.out.cell 1
  have q2 := HBS.out.cell 2
  simp at q0 q1 q2
  have ql := HBS.out.lt
  cases b0 : inB s0 (-r) r
  · have HR := hide (show ans = false by rw [HIN.out]; simp [b0])
    go_wp2_with fail
    refine (cb (HW0.out _) b0).mono ?_
    rintro e v0 ⟨rfl, rfl⟩
    go_wp2_with fail
    go_ret
    exact ⟨by rw [HR.out]; rfl, HX0.out⟩
  cases b1 : inB s1 (-r) r
  · have HR := hide (show ans = false by rw [HIN.out]; simp [b0, b1])
    go_wp2_with fail
    refine (cb (HW0.out _) b0).mono ?_
    rintro e v0 ⟨rfl, rfl⟩
    go_wp2_with fail
    refine (cb (HW1.out _) b1).mono ?_
    rintro e v1 ⟨rfl, rfl⟩
    go_wp2_with fail
    go_ret
    exact ⟨by rw [HR.out]; rfl, HX0.out⟩
  cases b2 : inB s2 (-r) r
  · have HR := hide (show ans = false by rw [HIN.out]; simp [b0, b1, b2])
    go_wp2_with fail
    refine (cb (HW0.out _) b0).mono ?_
    rintro e v0 ⟨rfl, rfl⟩
    go_wp2_with fail
    refine (cb (HW1.out _) b1).mono ?_
    rintro e v1 ⟨rfl, rfl⟩
    go_wp2_with fail
    refine (cb (HW2.out _) b2).mono ?_
    rintro e v2 ⟨rfl, rfl⟩
    go_wp2_with fail
    go_ret
    exact ⟨by rw [HR.out]; rfl, HX0.out⟩
  have k0 := inB_true.1 b0
  have k1 := inB_true.1 b1
  have k2 := inB_true.1 b2
  have m0 := sq_bd k0
  have m1 := sq_bd k1
  have m2 := sq_bd k2
  have m3 := sq_bd (a := r) (b := 29999) (by omega)
  have m4 : r * r ≤ 29999 * 29999 := m3.2
  obtain ⟨p0, hp0⟩ : ∃ p, p = s0 * s0 := ⟨_, rfl⟩
  obtain ⟨p1, hp1⟩ : ∃ p, p = s1 * s1 := ⟨_, rfl⟩
  obtain ⟨p2, hp2⟩ : ∃ p, p = s2 * s2 := ⟨_, rfl⟩
  obtain ⟨pr, hpr⟩ : ∃ p, p = r * r := ⟨_, rfl⟩
  have HR := hide (show ans = decide (p0 + p1 + p2 < pr) by rw [HIN.out, b0, b1, b2, hp0, hp1, hp2, hpr]; simp)
  rw [← hp0, ← hpr] at m0
  rw [← hp1, ← hpr] at m1
  rw [← hp2, ← hpr] at m2
  rw [← hpr] at m3 m4
  have e0 : s0 * s0 = p0 := hp0.symm
  have e1 : s1 * s1 = p1 := hp1.symm
  have e2 : s2 * s2 = p2 := hp2.symm
  have e3 : r * r = pr := hpr.symm
  clear hp0 hp1 hp2 hpr k0 k1 k2 HIN
  go_wp2_with fail
  refine (cb (HW0.out _) b0).mono ?_
  rintro e v0 ⟨rfl, rfl⟩
  go_wp2_with fail
  refine (cb (HW1.out _) b1).mono ?_
  rintro e v1 ⟨rfl, rfl⟩
  go_wp2_with fail
  refine (cb (HW2.out _) b2).mono ?_
  rintro e v2 ⟨rfl, rfl⟩
  go_wp2_with fail
  go_ret
  exact ⟨by rw [HR.out]; first | rfl | simp, HX0.out⟩

set_option maxHeartbeats 6400000 in
set_option maxRecDepth 100000 in
theorem c_l09Seat (b : Nat) (R : Int) (s : V3) (w : World) (hR : 1000 ≤ R ∧ R ≤ 30000) (hs : s.in_ 100000000) (hbd : b < w.heap.size) (hbc : w.cell? ⟨b, 1, none⟩ = some (.int .i64 R)) : Calls Tryz.prog 88 #[.pointer (some ⟨b, 0, none⟩), s.val] w fun e w' => e = .returned (.bool (inSeat R s)) ∧ IsX w w' := by
  obtain ⟨s0, s1, s2⟩ := s
  obtain ⟨h0, h1, h2⟩ := hs
  simp only at h0 h1 h2
  obtain ⟨r, hr⟩ : ∃ r, r = R - 1 := ⟨_, rfl⟩
  have tr : R - 1 = r := hr.symm
  have hrb : 999 ≤ r ∧ r ≤ 29999 := by omega
  have HIN := hide (show inSeat R ⟨s0, s1, s2⟩ = (inB s0 (-r) r && inB s1 (-r) r && inB s2 (-r) r && decide (s0 * s0 + s1 * s1 + s2 * s2 < r * r)) by rw [hr]; rfl)
  generalize inSeat R ⟨s0, s1, s2⟩ = ans at *
  simp only [V3.val]
  clear hr
  obtain ⟨W0, hW0⟩ : ∃ W, W = (w.alloc (.cells #[.int .i64 s0, .int .i64 s1, .int .i64 s2] 29)) := ⟨_, rfl⟩
  obtain ⟨BS, hBS⟩ : ∃ B, B = w.heap.size := ⟨_, rfl⟩
  have HBS := hide (show Blk W0 BS 29 #[.int .i64 s0, .int .i64 s1, .int .i64 s2] from by rw [hW0, hBS]; have h := (Blk.new w 29 #[.int .i64 s0, .int .i64 s1, .int .i64 s2]); simpa using h)
  have HX0 := hide (show IsX w W0 from by rw [hW0]; exact (IsX.refl w).alloc _)
  have HW0 := hide (fun V : World => c_in s0 (-r) r V)
  have HW1 := hide (fun V : World => c_in s1 (-r) r V)
  have HW2 := hide (fun V : World => c_in s2 (-r) r V)
  have d1 := keep HX0.out hbd hbc
  have dl := Nat.lt_of_lt_of_le hbd HX0.out.size
  clear hbd hbc
  go_enter Tryz.func88, Tryz.ntmps88
  go_upto_region 1 with fail
  (try simp only [World.size_alloc, Nat.add_assoc, Nat.reduceAdd])
  rw [← hW0]
  simp only [← hBS]
  clear hW0 hBS
  have q0 := HBS.out.cell 0
  have q1 := HBS.out.cell 1
  have q2 := HBS.out.cell 2
  simp at q0 q1 q2
  have ql := HBS.out.lt
  cases b0 : inB s0 (-r) r
  · have HR := hide (show ans = false by rw [HIN.out]; simp [b0])
    go_wp2_with fail
    refine (cb (HW0.out _) b0).mono ?_
    rintro e v0 ⟨rfl, rfl⟩
    go_wp2_with fail
    go_ret
    exact ⟨by rw [HR.out]; rfl, HX0.out⟩
  cases b1 : inB s1 (-r) r
  · have HR := hide (show ans = false by rw [HIN.out]; simp [b0, b1])
    go_wp2_with fail
    refine (cb (HW0.out _) b0).mono ?_
    rintro e v0 ⟨rfl, rfl⟩
    go_wp2_with fail
    refine (cb (HW1.out _) b1).mono ?_
    rintro e v1 ⟨rfl, rfl⟩
    go_wp2_with fail
    go_ret
    exact ⟨by rw [HR.out]; rfl, HX0.out⟩
  cases b2 : inB s2 (-r) r
  · have HR := hide (show ans = false by rw [HIN.out]; simp [b0, b1, b2])
    go_wp2_with fail
    refine (cb (HW0.out _) b0).mono ?_
    rintro e v0 ⟨rfl, rfl⟩
    go_wp2_with fail
    refine (cb (HW1.out _) b1).mono ?_
    rintro e v1 ⟨rfl, rfl⟩
    go_wp2_with fail
    refine (cb (HW2.out _) b2).mono ?_
    rintro e v2 ⟨rfl, rfl⟩
    go_wp2_with fail
    go_ret
    exact ⟨by rw [HR.out]; rfl, HX0.out⟩
  have k0 := inB_true.1 b0
  have k1 := inB_true.1 b1
  have k2 := inB_true.1 b2
  have m0 := sq_bd k0
  have m1 := sq_bd k1
  have m2 := sq_bd k2
  have m3 := sq_bd (a := r) (b := 29999) (by omega)
  have m4 : r * r ≤ 29999 * 29999 := m3.2
  obtain ⟨p0, hp0⟩ : ∃ p, p = s0 * s0 := ⟨_, rfl⟩
  obtain ⟨p1, hp1⟩ : ∃ p, p = s1 * s1 := ⟨_, rfl⟩
  obtain ⟨p2, hp2⟩ : ∃ p, p = s2 * s2 := ⟨_, rfl⟩
  obtain ⟨pr, hpr⟩ : ∃ p, p = r * r := ⟨_, rfl⟩
  have HR := hide (show ans = decide (p0 + p1 + p2 < pr) by rw [HIN.out, b0, b1, b2, hp0, hp1, hp2, hpr]; simp)
  rw [← hp0, ← hpr] at m0
  rw [← hp1, ← hpr] at m1
  rw [← hp2, ← hpr] at m2
  rw [← hpr] at m3 m4
  have e0 : s0 * s0 = p0 := hp0.symm
  have e1 : s1 * s1 = p1 := hp1.symm
  have e2 : s2 * s2 = p2 := hp2.symm
  have e3 : r * r = pr := hpr.symm
  clear hp0 hp1 hp2 hpr k0 k1 k2 HIN
  go_wp2_with fail
  refine (cb (HW0.out _) b0).mono ?_
  rintro e v0 ⟨rfl, rfl⟩
  go_wp2_with fail
  refine (cb (HW1.out _) b1).mono ?_
  rintro e v1 ⟨rfl, rfl⟩
  go_wp2_with fail
  refine (cb (HW2.out _) b2).mono ?_
  rintro e v2 ⟨rfl, rfl⟩
  go_wp2_with fail
  go_ret
  exact ⟨by rw [HR.out]; first | rfl | simp, HX0.out⟩

end Go.Proofs.YtfcfgkkkepifhaaGreatDoor
