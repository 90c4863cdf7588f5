/- Views from seats: what the reference and the program compute. Conditions: radii from 0 to 30000, seats of at most 30000; the table of sines as the program's text lays it. -/
import Derived.Test.YtadmpefbpklibaaDoorDomeG
namespace Go.Proofs.YtadmpefbpklibaaDoor
set_option linter.unusedVariables false
open Go.RowKit

set_option maxHeartbeats 6400000 in
set_option maxRecDepth 100000 in
theorem c_viewOf (dn : ByteArray) (R dt : Int) (s : V3) (az al : Int) (w : World) (hR : 0 ≤ R ∧ R ≤ 30000) (hs : s.in_ 30000) (haz : -100000000 ≤ az ∧ az ≤ 100000000) (hal : angI al) (HTAB : ∀ W, IsX w W → sinTab W) : Calls Tryd.prog 69 #[domV dn R dt, s.val, .int .i64 az, .int .i64 al] w fun e w' => e = .returned (viewZ R s az al).val ∧ IsX w w' := by
  have HPO := hide (fun V (hV : IsX w V) => c_domePoint dn R dt az al V hR haz hal (fun U hU => HTAB U (hV.trans hU)))
  have hpb := pointZ_bd (R := R) (az := az) (al := al) hR
  obtain ⟨s0, s1, s2⟩ := s
  have HVZ := hide (show viewZ R ⟨s0, s1, s2⟩ az al = ⟨(pointZ R az al).x - s0, (pointZ R az al).y - s1, (pointZ R az al).z - s2⟩ from rfl)
  generalize pointZ R az al = pz at *
  generalize viewZ R ⟨s0, s1, s2⟩ az al = vz at *
  obtain ⟨p0, p1, p2⟩ := pz
  obtain ⟨h0, h1, h2⟩ := hs
  obtain ⟨g0, g1, g2⟩ := hpb
  simp only at h0 h1 h2 g0 g1 g2 HVZ
  have HD := hide (show vz.val = .agg #[.int .i64 (p0 - s0), .int .i64 (p1 - s1), .int .i64 (p2 - s2)] by rw [HVZ.out]; rfl)
  simp only [V3.val, domV] at HPO ⊢
  simp only [V3.val] at HD
  clear HVZ hal HTAB
  obtain ⟨W0, hW0⟩ : ∃ W, W = (((w.alloc (.cells #[.string dn, .int .i64 R, .int .i64 dt] 29)).alloc (.cells #[.int .i64 s0, .int .i64 s1, .int .i64 s2] 48)).alloc (.cells #[.int .i64 0, .int .i64 0, .int .i64 0] 48)) := ⟨_, rfl⟩
  obtain ⟨BD, hBD⟩ : ∃ B, B = w.heap.size := ⟨_, rfl⟩
  have HBD := hide (show Blk W0 BD 29 #[.string dn, .int .i64 R, .int .i64 dt] from by rw [hW0, hBD]; have h := (((Blk.new w 29 #[.string dn, .int .i64 R, .int .i64 dt]).alloc (.cells #[.int .i64 s0, .int .i64 s1, .int .i64 s2] 48)).alloc (.cells #[.int .i64 0, .int .i64 0, .int .i64 0] 48)); simpa using h)
  obtain ⟨BS, hBS⟩ : ∃ B, B = BD + 1 := ⟨_, rfl⟩
  have HBS := hide (show Blk W0 BS 48 #[.int .i64 s0, .int .i64 s1, .int .i64 s2] from by rw [hW0, hBS, hBD]; have h := ((Blk.new (w.alloc (.cells #[.string dn, .int .i64 R, .int .i64 dt] 29)) 48 #[.int .i64 s0, .int .i64 s1, .int .i64 s2]).alloc (.cells #[.int .i64 0, .int .i64 0, .int .i64 0] 48)); simpa using h)
  obtain ⟨RB, hRB⟩ : ∃ B, B = BD + 2 := ⟨_, rfl⟩
  have HRBB := hide (show Blk W0 RB 48 #[.int .i64 0, .int .i64 0, .int .i64 0] from by rw [hW0, hRB, hBD]; have h := (Blk.new ((w.alloc (.cells #[.string dn, .int .i64 R, .int .i64 dt] 29)).alloc (.cells #[.int .i64 s0, .int .i64 s1, .int .i64 s2] 48)) 48 #[.int .i64 0, .int .i64 0, .int .i64 0]); simpa using h)
  have HX0 := hide (show IsX w W0 from by rw [hW0]; exact (((IsX.refl w).alloc _).alloc _).alloc _)
  have HRB : Hid (w.heap.size ≤ RB) := hide (by omega)
  go_enter Tryd.func69, Tryd.ntmps69
  go_wp2_with fail
  (try simp only [World.size_alloc, Nat.add_assoc, Nat.reduceAdd])
  rw [← hW0]
  simp only [← hBD, ← hBS, ← hRB]
  clear hW0 hBD hBS hRB
  refine (HPO.out _ HX0.out).mono ?_
  rintro e w1 ⟨rfl, hx⟩
  have HX1 := hide (HX0.out.trans hx)
  replace HRBB := hide (HRBB.out.x hx)
  replace HBS := hide (HBS.out.x hx)
  clear hx HBD
  have q0 := HBS.out.cell 0
  have q1 := HBS.out.cell 1
  have q2 := HBS.out.cell 2
  simp at q0 q1 q2
  have ql := HBS.out.lt
  have f0 := HRBB.out.cell 0
  have f1 := HRBB.out.cell 1
  have f2 := HRBB.out.cell 2
  have z0 := HRBB.out.frozen 0
  have z1 := HRBB.out.frozen 1
  have z2 := HRBB.out.frozen 2
  have hlt5 := HRBB.out.lt
  simp at f0 f1 f2
  go_wp2_with fail
  have hX6 : IsX w (((w1.setCell ⟨RB, 0, none⟩ (.int .i64 (p0 - s0))).setCell ⟨RB, 1, none⟩ (.int .i64 (p1 - s1))).setCell ⟨RB, 2, none⟩ (.int .i64 (p2 - s2))) :=
    IsX.setCell (a := ⟨RB, 2, none⟩) (IsX.setCell (a := ⟨RB, 1, none⟩) (IsX.setCell (a := ⟨RB, 0, none⟩) HX1.out HRB.out _) HRB.out _) HRB.out _
  have hB6 := ((HRBB.out.set_ 0 (.int .i64 (p0 - s0))).set_ 1 (.int .i64 (p1 - s1))).set_ 2 (.int .i64 (p2 - s2))
  clear f0 f1 f2 z0 z1 z2 q0 q1 q2 ql
  generalize ((w1.setCell ⟨RB, 0, none⟩ (.int .i64 (p0 - s0))).setCell ⟨RB, 1, none⟩ (.int .i64 (p1 - s1))).setCell ⟨RB, 2, none⟩ (.int .i64 (p2 - s2)) = V6 at *
  have hX7 := hX6.alloc (.cells #[.int .i64 p0, .int .i64 p1, .int .i64 p2] 48)
  have hB7 := hB6.alloc (.cells #[.int .i64 p0, .int .i64 p1, .int .i64 p2] 48)
  generalize V6.alloc (.cells #[.int .i64 p0, .int .i64 p1, .int .i64 p2] 48) = V7 at *
  have r0 := hB7.cell 0
  have r1 := hB7.cell 1
  have r2 := hB7.cell 2
  simp at r0 r1 r2
  exact bodyPost_ret (v := .agg #[.int .i64 (p0 - s0), .int .i64 (p1 - s1), .int .i64 (p2 - s2)]) (by simp [results, Tryd.results69, go_sem, r0, r1, r2]) rfl ⟨by rw [HD.out], hX7⟩

set_option maxHeartbeats 6400000 in
set_option maxRecDepth 100000 in
theorem c_l09View (b : Nat) (R : Int) (s : V3) (az al : Int) (w : World) (hR : 0 ≤ R ∧ R ≤ 30000) (hs : s.in_ 30000) (haz : -100000000 ≤ az ∧ az ≤ 100000000) (hal : angI al) (hbd : b < w.heap.size) (hbc : w.cell? ⟨b, 1, none⟩ = some (.int .i64 R)) : Calls Tryd.prog 62 #[.pointer (some ⟨b, 0, none⟩), s.val, .int .i64 az, .int .i64 al] w fun e w' => e = .returned (.tuple #[.int .i64 ((90000 - lonZ (viewZ R s az al)) % 360000), .int .i64 (latZ (viewZ R s az al)), .int .i64 (lenZ (viewZ R s az al))]) ∧ IsX w w' := by
  have HPO := hide (fun V (hV : IsX w V) => c_l09Point b R az al V hR haz hal (Nat.lt_of_lt_of_le hbd hV.size) (keep hV hbd hbc))
  have hpb := pointZ_bd (R := R) (az := az) (al := al) hR
  have hvb := viewZ_bd (R := R) (az := az) (al := al) hR hs
  have HAN := hide (fun (V : World) => c_l04Angles (viewZ R s az al) V hvb)
  have HLE := hide (fun (V : World) => c_l04Length (viewZ R s az al) V ⟨by have := hvb.1; omega, by have := hvb.2.1; omega, by have := hvb.2.2; omega⟩)
  have hlo := lonZ_bd (viewZ R s az al)
  have HNO := hide (fun (V : World) => c_l02Normal (90000 - lonZ (viewZ R s az al)) V (by omega))
  obtain ⟨s0, s1, s2⟩ := s
  have HVZ := hide (show viewZ R ⟨s0, s1, s2⟩ az al = ⟨(pointZ R az al).x - s0, (pointZ R az al).y - s1, (pointZ R az al).z - s2⟩ from rfl)
  generalize pointZ R az al = pz at *
  generalize viewZ R ⟨s0, s1, s2⟩ az al = vz at *
  obtain ⟨p0, p1, p2⟩ := pz
  obtain ⟨h0, h1, h2⟩ := hs
  obtain ⟨g0, g1, g2⟩ := hpb
  simp only at h0 h1 h2 g0 g1 g2 HVZ
  have hvz := HVZ.out
  subst hvz
  obtain ⟨x0, hx0⟩ : ∃ x, x = p0 - s0 := ⟨_, rfl⟩
  obtain ⟨x1, hx1⟩ : ∃ x, x = p1 - s1 := ⟨_, rfl⟩
  obtain ⟨x2, hx2⟩ : ∃ x, x = p2 - s2 := ⟨_, rfl⟩
  have t0 : p0 - s0 = x0 := hx0.symm
  have t1 : p1 - s1 = x1 := hx1.symm
  have t2 : p2 - s2 = x2 := hx2.symm
  rw [← hx0, ← hx1, ← hx2] at HAN HLE HNO hlo hvb ⊢
  generalize lonZ ⟨x0, x1, x2⟩ = lo at *
  generalize latZ ⟨x0, x1, x2⟩ = la at *
  generalize lenZ ⟨x0, x1, x2⟩ = le at *
  simp only [V3.val] at HPO HAN HLE ⊢
  clear HVZ hal hbd hbc hx0 hx1 hx2 hvb
  obtain ⟨W0, hW0⟩ : ∃ W, W = (w.alloc (.cells #[.int .i64 s0, .int .i64 s1, .int .i64 s2] 48)) := ⟨_, rfl⟩
  obtain ⟨BS, hBS⟩ : ∃ B, B = w.heap.size := ⟨_, rfl⟩
  have HBS := hide (show Blk W0 BS 48 #[.int .i64 s0, .int .i64 s1, .int .i64 s2] from by rw [hW0, hBS]; have h := (Blk.new w 48 #[.int .i64 s0, .int .i64 s1, .int .i64 s2]); simpa using h)
  have HX0 := hide (show IsX w W0 from by rw [hW0]; exact (IsX.refl w).alloc _)
  go_enter Tryd.func62, Tryd.ntmps62
  go_wp2_with fail
  (try simp only [World.size_alloc, Nat.add_assoc, Nat.reduceAdd])
  rw [← hW0]
  simp only [← hBS]
  clear hW0 hBS
  refine (HPO.out _ HX0.out).mono ?_
  rintro e w1 ⟨rfl, hx⟩
  have HX1 := hide (HX0.out.trans hx)
  replace HBS := hide (HBS.out.x hx)
  clear hx
  have q0 := HBS.out.cell 0
  have q1 := HBS.out.cell 1
  have q2 := HBS.out.cell 2
  simp at q0 q1 q2
  have ql := HBS.out.lt
  go_wp2_with fail
  obtain ⟨W2, hW2⟩ : ∃ W, W = (w1.alloc (.cells #[.int .i64 p0, .int .i64 p1, .int .i64 p2] 48)).alloc (.cells #[.int .i64 x0, .int .i64 x1, .int .i64 x2] 48) := ⟨_, rfl⟩
  obtain ⟨BV, hBV⟩ : ∃ B, B = w1.heap.size + 1 := ⟨_, rfl⟩
  have HBV := hide (show Blk W2 BV 48 #[.int .i64 x0, .int .i64 x1, .int .i64 x2] from by rw [hW2, hBV]; have h := Blk.new (w1.alloc (.cells #[.int .i64 p0, .int .i64 p1, .int .i64 p2] 48)) 48 #[.int .i64 x0, .int .i64 x1, .int .i64 x2]; simpa using h)
  have HX2 := hide (show IsX w W2 from hW2 ▸ (HX1.out.alloc _).alloc _)
  rw [← hW2, ← hBV]
  clear hW2 hBV q0 q1 q2 ql
  refine (HAN.out _).mono ?_
  rintro e w3 ⟨rfl, hx⟩
  have HX3 := hide (HX2.out.trans hx)
  replace HBV := hide (HBV.out.x hx)
  clear hx
  have q0 := HBV.out.cell 0
  have q1 := HBV.out.cell 1
  have q2 := HBV.out.cell 2
  simp at q0 q1 q2
  have ql := HBV.out.lt
  go_wp2_with fail
  refine wp_region_x (by kernel_rfl) (by kernel_rfl) ?_
  repeat (go_big_quiet_step (fail))
  go_big_quiet_step ((go_at_call 43; exact call_q (HNO.out _)))
  repeat (go_big_quiet_step (fail))
  go_big_quiet_step ((go_at_call 78; exact call_x (HLE.out _)))
  repeat (go_big_quiet_step (fail))
  refine wpQuiet_nil ?_
  rintro _ ⟨qq, rfl⟩
  go_wp2_with fail
  go_ret3
  exact ⟨rfl, HX3.out.trans ⟨qq, rfl⟩⟩

set_option maxHeartbeats 6400000 in
set_option maxRecDepth 100000 in
theorem c_isInside (dn : ByteArray) (R dt : Int) (s : V3) (w : World) (hR : 1000 ≤ R ∧ R ≤ 30000) (hs : s.in_ 100000000) : Calls Tryd.prog 51 #[domV dn R dt, s.val] w fun e w' => e = .returned (.bool (inSeat R s)) ∧ IsX w w' := by
  obtain ⟨s0, s1, s2⟩ := s
  obtain ⟨h0, h1, h2⟩ := hs
  simp only at h0 h1 h2
  obtain ⟨r, hr⟩ : ∃ r, r = R - 1 := ⟨_, rfl⟩
  have tr : R - 1 = r := hr.symm
  have hrb : 999 ≤ r ∧ r ≤ 29999 := by omega
  have HIN := hide (show inSeat R ⟨s0, s1, s2⟩ = (inB s0 (-r) r && inB s1 (-r) r && inB s2 (-r) r && decide (s0 * s0 + s1 * s1 + s2 * s2 < r * r)) by rw [hr]; rfl)
  generalize inSeat R ⟨s0, s1, s2⟩ = ans at *
  simp only [V3.val, domV]
  clear hr
  obtain ⟨W0, hW0⟩ : ∃ W, W = ((w.alloc (.cells #[.string dn, .int .i64 R, .int .i64 dt] 29)).alloc (.cells #[.int .i64 s0, .int .i64 s1, .int .i64 s2] 48)) := ⟨_, rfl⟩
  obtain ⟨BD, hBD⟩ : ∃ B, B = w.heap.size := ⟨_, rfl⟩
  have HBD := hide (show Blk W0 BD 29 #[.string dn, .int .i64 R, .int .i64 dt] from by rw [hW0, hBD]; have h := ((Blk.new w 29 #[.string dn, .int .i64 R, .int .i64 dt]).alloc (.cells #[.int .i64 s0, .int .i64 s1, .int .i64 s2] 48)); simpa using h)
  obtain ⟨BS, hBS⟩ : ∃ B, B = BD + 1 := ⟨_, rfl⟩
  have HBS := hide (show Blk W0 BS 48 #[.int .i64 s0, .int .i64 s1, .int .i64 s2] from by rw [hW0, hBS, hBD]; have h := (Blk.new (w.alloc (.cells #[.string dn, .int .i64 R, .int .i64 dt] 29)) 48 #[.int .i64 s0, .int .i64 s1, .int .i64 s2]); simpa using h)
  have HX0 := hide (show IsX w W0 from by rw [hW0]; exact ((IsX.refl w).alloc _).alloc _)
  have HW0 := hide (fun V : World => c_within s0 (-r) r V)
  have HW1 := hide (fun V : World => c_within s1 (-r) r V)
  have HW2 := hide (fun V : World => c_within s2 (-r) r V)
  go_enter Tryd.func51, Tryd.ntmps51
  go_upto_region 1 with fail
  (try simp only [World.size_alloc, Nat.add_assoc, Nat.reduceAdd])
  rw [← hW0]
  simp only [← hBD, ← hBS]
  clear hW0 hBD hBS
  have d0 := HBD.out.cell 0
  have d1 := HBD.out.cell 1
  have d2 := HBD.out.cell 2
  simp at d0 d1 d2
  have dl := HBD.out.lt
  have q0 := HBS.out.cell 0
  have q1 := HBS.out.cell 1
  have q2 := HBS.out.cell 2
  simp at q0 q1 q2
  have ql := HBS.out.lt
  cases b0 : inB s0 (-r) r
  · have HR := hide (show ans = false by rw [HIN.out]; simp [b0])
    go_wp2_with fail
    refine (cb (HW0.out _) b0).mono ?_
    rintro e v0 ⟨rfl, rfl⟩
    go_wp2_with fail
    go_ret
    exact ⟨by rw [HR.out]; rfl, HX0.out⟩
  cases b1 : inB s1 (-r) r
  · have HR := hide (show ans = false by rw [HIN.out]; simp [b0, b1])
    go_wp2_with fail
    refine (cb (HW0.out _) b0).mono ?_
    rintro e v0 ⟨rfl, rfl⟩
    go_wp2_with fail
    refine (cb (HW1.out _) b1).mono ?_
    rintro e v1 ⟨rfl, rfl⟩
    go_wp2_with fail
    go_ret
    exact ⟨by rw [HR.out]; rfl, HX0.out⟩
  cases b2 : inB s2 (-r) r
  · have HR := hide (show ans = false by rw [HIN.out]; simp [b0, b1, b2])
    go_wp2_with fail
    refine (cb (HW0.out _) b0).mono ?_
    rintro e v0 ⟨rfl, rfl⟩
    go_wp2_with fail
    refine (cb (HW1.out _) b1).mono ?_
    rintro e v1 ⟨rfl, rfl⟩
    go_wp2_with fail
    refine (cb (HW2.out _) b2).mono ?_
    rintro e v2 ⟨rfl, rfl⟩
    go_wp2_with fail
    go_ret
    exact ⟨by rw [HR.out]; rfl, HX0.out⟩
  have k0 := inB_true.1 b0
  have k1 := inB_true.1 b1
  have k2 := inB_true.1 b2
  have m0 := sq_bd k0
  have m1 := sq_bd k1
  have m2 := sq_bd k2
  have m3 := sq_bd (a := r) (b := 29999) (by omega)
  have m4 : r * r ≤ 29999 * 29999 := m3.2
  obtain ⟨p0, hp0⟩ : ∃ p, p = s0 * s0 := ⟨_, rfl⟩
  obtain ⟨p1, hp1⟩ : ∃ p, p = s1 * s1 := ⟨_, rfl⟩
  obtain ⟨p2, hp2⟩ : ∃ p, p = s2 * s2 := ⟨_, rfl⟩
  obtain ⟨pr, hpr⟩ : ∃ p, p = r * r := ⟨_, rfl⟩
  have HR := hide (show ans = decide (p0 + p1 + p2 < pr) by rw [HIN.out, b0, b1, b2, hp0, hp1, hp2, hpr]; simp)
  rw [← hp0, ← hpr] at m0
  rw [← hp1, ← hpr] at m1
  rw [← hp2, ← hpr] at m2
  rw [← hpr] at m3 m4
  have e0 : s0 * s0 = p0 := hp0.symm
  have e1 : s1 * s1 = p1 := hp1.symm
  have e2 : s2 * s2 = p2 := hp2.symm
  have e3 : r * r = pr := hpr.symm
  clear hp0 hp1 hp2 hpr k0 k1 k2 HIN
  go_wp2_with fail
  refine (cb (HW0.out _) b0).mono ?_
  rintro e v0 ⟨rfl, rfl⟩
  go_wp2_with fail
  refine (cb (HW1.out _) b1).mono ?_
  rintro e v1 ⟨rfl, rfl⟩
  go_wp2_with fail
  refine (cb (HW2.out _) b2).mono ?_
  rintro e v2 ⟨rfl, rfl⟩
  go_wp2_with fail
  go_ret
  exact ⟨by rw [HR.out]; first | rfl | simp, HX0.out⟩

set_option maxHeartbeats 6400000 in
set_option maxRecDepth 100000 in
theorem c_l09Seat (b : Nat) (R : Int) (s : V3) (w : World) (hR : 1000 ≤ R ∧ R ≤ 30000) (hs : s.in_ 100000000) (hbd : b < w.heap.size) (hbc : w.cell? ⟨b, 1, none⟩ = some (.int .i64 R)) : Calls Tryd.prog 39 #[.pointer (some ⟨b, 0, none⟩), s.val] w fun e w' => e = .returned (.bool (inSeat R s)) ∧ IsX w w' := by
  obtain ⟨s0, s1, s2⟩ := s
  obtain ⟨h0, h1, h2⟩ := hs
  simp only at h0 h1 h2
  obtain ⟨r, hr⟩ : ∃ r, r = R - 1 := ⟨_, rfl⟩
  have tr : R - 1 = r := hr.symm
  have hrb : 999 ≤ r ∧ r ≤ 29999 := by omega
  have HIN := hide (show inSeat R ⟨s0, s1, s2⟩ = (inB s0 (-r) r && inB s1 (-r) r && inB s2 (-r) r && decide (s0 * s0 + s1 * s1 + s2 * s2 < r * r)) by rw [hr]; rfl)
  generalize inSeat R ⟨s0, s1, s2⟩ = ans at *
  simp only [V3.val]
  clear hr
  obtain ⟨W0, hW0⟩ : ∃ W, W = (w.alloc (.cells #[.int .i64 s0, .int .i64 s1, .int .i64 s2] 48)) := ⟨_, rfl⟩
  obtain ⟨BS, hBS⟩ : ∃ B, B = w.heap.size := ⟨_, rfl⟩
  have HBS := hide (show Blk W0 BS 48 #[.int .i64 s0, .int .i64 s1, .int .i64 s2] from by rw [hW0, hBS]; have h := (Blk.new w 48 #[.int .i64 s0, .int .i64 s1, .int .i64 s2]); simpa using h)
  have HX0 := hide (show IsX w W0 from by rw [hW0]; exact (IsX.refl w).alloc _)
  have HW0 := hide (fun V : World => c_in s0 (-r) r V)
  have HW1 := hide (fun V : World => c_in s1 (-r) r V)
  have HW2 := hide (fun V : World => c_in s2 (-r) r V)
  have d1 := keep HX0.out hbd hbc
  have dl := Nat.lt_of_lt_of_le hbd HX0.out.size
  clear hbd hbc
  go_enter Tryd.func39, Tryd.ntmps39
  go_upto_region 1 with fail
  (try simp only [World.size_alloc, Nat.add_assoc, Nat.reduceAdd])
  rw [← hW0]
  simp only [← hBS]
  clear hW0 hBS
  have q0 := HBS.out.cell 0
  have q1 := HBS.out.cell 1
  have q2 := HBS.out.cell 2
  simp at q0 q1 q2
  have ql := HBS.out.lt
  cases b0 : inB s0 (-r) r
  · have HR := hide (show ans = false by rw [HIN.out]; simp [b0])
    go_wp2_with fail
    refine (cb (HW0.out _) b0).mono ?_
    rintro e v0 ⟨rfl, rfl⟩
    go_wp2_with fail
    go_ret
    exact ⟨by rw [HR.out]; rfl, HX0.out⟩
  cases b1 : inB s1 (-r) r
  · have HR := hide (show ans = false by rw [HIN.out]; simp [b0, b1])
    go_wp2_with fail
    refine (cb (HW0.out _) b0).mono ?_
    rintro e v0 ⟨rfl, rfl⟩
    go_wp2_with fail
    refine (cb (HW1.out _) b1).mono ?_
    rintro e v1 ⟨rfl, rfl⟩
    go_wp2_with fail
    go_ret
    exact ⟨by rw [HR.out]; rfl, HX0.out⟩
  cases b2 : inB s2 (-r) r
  · have HR := hide (show ans = false by rw [HIN.out]; simp [b0, b1, b2])
    go_wp2_with fail
    refine (cb (HW0.out _) b0).mono ?_
    rintro e v0 ⟨rfl, rfl⟩
    go_wp2_with fail
    refine (cb (HW1.out _) b1).mono ?_
    rintro e v1 ⟨rfl, rfl⟩
    go_wp2_with fail
    refine (cb (HW2.out _) b2).mono ?_
    rintro e v2 ⟨rfl, rfl⟩
    go_wp2_with fail
    go_ret
    exact ⟨by rw [HR.out]; rfl, HX0.out⟩
  have k0 := inB_true.1 b0
  have k1 := inB_true.1 b1
  have k2 := inB_true.1 b2
  have m0 := sq_bd k0
  have m1 := sq_bd k1
  have m2 := sq_bd k2
  have m3 := sq_bd (a := r) (b := 29999) (by omega)
  have m4 : r * r ≤ 29999 * 29999 := m3.2
  obtain ⟨p0, hp0⟩ : ∃ p, p = s0 * s0 := ⟨_, rfl⟩
  obtain ⟨p1, hp1⟩ : ∃ p, p = s1 * s1 := ⟨_, rfl⟩
  obtain ⟨p2, hp2⟩ : ∃ p, p = s2 * s2 := ⟨_, rfl⟩
  obtain ⟨pr, hpr⟩ : ∃ p, p = r * r := ⟨_, rfl⟩
  have HR := hide (show ans = decide (p0 + p1 + p2 < pr) by rw [HIN.out, b0, b1, b2, hp0, hp1, hp2, hpr]; simp)
  rw [← hp0, ← hpr] at m0
  rw [← hp1, ← hpr] at m1
  rw [← hp2, ← hpr] at m2
  rw [← hpr] at m3 m4
  have e0 : s0 * s0 = p0 := hp0.symm
  have e1 : s1 * s1 = p1 := hp1.symm
  have e2 : s2 * s2 = p2 := hp2.symm
  have e3 : r * r = pr := hpr.symm
  clear hp0 hp1 hp2 hpr k0 k1 k2 HIN
  go_wp2_with fail
  refine (cb (HW0.out _) b0).mono ?_
  rintro e v0 ⟨rfl, rfl⟩
  go_wp2_with fail
  refine (cb (HW1.out _) b1).mono ?_
  rintro e v1 ⟨rfl, rfl⟩
  go_wp2_with fail
  refine (cb (HW2.out _) b2).mono ?_
  rintro e v2 ⟨rfl, rfl⟩
  go_wp2_with fail
  go_ret
  exact ⟨by rw [HR.out]; first | rfl | simp, HX0.out⟩

end Go.Proofs.YtadmpefbpklibaaDoor
