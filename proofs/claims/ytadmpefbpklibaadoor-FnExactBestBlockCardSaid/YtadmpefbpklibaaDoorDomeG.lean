/- Angles of vectors, points of domes, views from seats: what the reference and the program compute. Conditions: numbers as told with each; the table of sines as the program's text lays it. -/
import Derived.Test.YtadmpefbpklibaaDoorDomeF
import Derived.Test.YtadmpefbpklibaaDoorDomeP
namespace Go.Proofs.YtadmpefbpklibaaDoor
set_option linter.unusedVariables false
open Go.RowKit



set_option maxHeartbeats 6400000 in
set_option maxRecDepth 100000 in
theorem c_domeAngles (v : V3) (w : World) (hv : v.in_ 62100) (HTAB : ∀ W, IsX w W → sinTab W) : Calls Tryd.prog 68 #[v.val] w fun e w' => e = .returned (.tuple #[.int .i64 ((90000 - lonZ v) % 360000), .int .i64 (latZ v)]) ∧ IsX w w' := by
  obtain ⟨x, y, z⟩ := v
  obtain ⟨h0, h1, h2⟩ := hv
  simp only at h0 h1 h2
  have m0 := sq_bd h0
  have m1 := sq_bd h1
  obtain ⟨p0, hp0⟩ : ∃ p, p = x * x := ⟨_, rfl⟩
  obtain ⟨p1, hp1⟩ : ∃ p, p = y * y := ⟨_, rfl⟩
  have HLA := hide (show latR ⟨x, y, z⟩ = arcZ z (rootZ (p0 + p1)) by rw [hp0, hp1]; rfl)
  rw [← hp0] at m0
  rw [← hp1] at m1
  have e0 : x * x = p0 := hp0.symm
  have e1 : y * y = p1 := hp1.symm
  have hr0 := rootZ_nn (p0 + p1)
  have hr1 : rootZ (p0 + p1) ≤ 100000 := rootZ_le (by omega) (by omega)
  have HRO := hide (fun (V : World) => c_RootOf (p0 + p1) V (by omega) (by omega))
  have HA2 := hide (fun V (hV : IsX w V) => c_ArcTangent z (rootZ (p0 + p1)) V (by unfold smallI; omega) (by unfold smallI; omega) (fun U hU => HTAB U (hV.trans hU)))
  have HA1 := hide (fun V (hV : IsX w V) => c_ArcTangent y x V (by unfold smallI; omega) (by unfold smallI; omega) (fun U hU => HTAB U (hV.trans hU)))
  generalize rootZ (p0 + p1) = rr at *
  have hlab := arcZ_bd z rr
  have HLZ := hide (show (90000 < arcZ z rr → latZ ⟨x, y, z⟩ = arcZ z rr - 360000) ∧ (¬ 90000 < arcZ z rr → latZ ⟨x, y, z⟩ = arcZ z rr) from ⟨fun h => by unfold latZ; rw [HLA.out, if_pos h], fun h => by unfold latZ; rw [HLA.out, if_neg h]⟩)
  obtain ⟨t, ht⟩ : ∃ t : Bool, t = (!(decide (x = 0) && decide (y = 0))) := ⟨_, rfl⟩
  have HT := hide ht
  have HLO := hide (show (t = true → lonZ ⟨x, y, z⟩ = arcZ y x) ∧ (t = false → lonZ ⟨x, y, z⟩ = 0) from ⟨fun h => by
    rw [ht, Bool.not_eq_true', Bool.and_eq_false_iff, decide_eq_false_iff_not, decide_eq_false_iff_not] at h
    unfold lonZ; rw [if_neg (fun hc => by rcases h with h | h; exact h hc.1; exact h hc.2)], fun h => by
    rw [ht, Bool.not_eq_false', Bool.and_eq_true, decide_eq_true_eq, decide_eq_true_eq] at h
    unfold lonZ; rw [if_pos h]⟩)
  have hlob := arcZ_bd y x
  generalize latZ ⟨x, y, z⟩ = lat at *
  generalize lonZ ⟨x, y, z⟩ = lon at *
  simp only [V3.val]
  clear hp0 hp1 HLA ht HTAB
  obtain ⟨W0, hW0⟩ : ∃ W, W = (w.alloc (.cells #[.int .i64 x, .int .i64 y, .int .i64 z] 48)) := ⟨_, rfl⟩
  obtain ⟨BA, hBA⟩ : ∃ B, B = w.heap.size := ⟨_, rfl⟩
  have HBA := hide (show Blk W0 BA 48 #[.int .i64 x, .int .i64 y, .int .i64 z] from by rw [hW0, hBA]; have h := (Blk.new w 48 #[.int .i64 x, .int .i64 y, .int .i64 z]); simpa using h)
  have HX0 := hide (show IsX w W0 from by rw [hW0]; exact (IsX.refl w).alloc _)
  go_enter Tryd.func68, Tryd.ntmps68
  go_upto_region 2 with fail
  (try simp only [World.size_alloc, Nat.add_assoc, Nat.reduceAdd])
  rw [← hW0]
  simp only [← hBA]
  clear hW0 hBA
  have q0 := HBA.out.cell 0
  have q1 := HBA.out.cell 1
  have q2 := HBA.out.cell 2
  simp at q0 q1 q2
  have ql := HBA.out.lt
  go_cut [14] from 7 to 14 (fun s wc => s = .bool t ∧ W0 = wc)
  case first =>
    by_cases hx : x = 0
    · subst hx
      by_cases hy : y = 0
      · subst hy
        go_wp2_with fail
        all_goals
          go_meet
          exact ⟨congrArg Value.bool (by rw [HT.out]; simp), rfl⟩
      · go_wp2_with fail
        all_goals
          go_meet
          exact ⟨congrArg Value.bool (by rw [HT.out]; simp [hy]), rfl⟩
    · go_wp2_with fail
      all_goals
        go_meet
        exact ⟨congrArg Value.bool (by rw [HT.out]; simp [hx]), rfl⟩
  obtain ⟨rfl, rfl⟩ := hcut
  go_upto_if 14 with fail
  cases t
  · have HLON := hide (HLO.out.2 rfl)
    go_wp2_with fail
    refine wp_region_x (by kernel_rfl) (by kernel_rfl) ?_
    repeat (go_big_quiet_step (fail))
    go_big_quiet_step ((go_at_call 85; exact call_q (HRO.out _)))
    repeat (go_big_quiet_step (fail))
    go_big_quiet_step ((go_at_call 84; exact call_x (HA2.out _ (HX0.out.trans ⟨_, rfl⟩))))
    repeat (go_big_quiet_step (fail))
    refine wpQuiet_nil ?_
    rintro _ ⟨qq, rfl⟩
    have HXQ := hide (HX0.out.trans ⟨qq, rfl⟩)
    clear q0 q1 q2 ql HBA
    clear HRO HA2 HA1 e0 e1 m0 m1
    generalize xt W0 qq = VQ at *
    generalize arcZ z rr = la at *
    by_cases hgt : 90000 < la
    · have HL := hide (HLZ.out.1 (by omega))
      have hgz : la > 90000 := hgt
      have HNO := hide (fun (V : World) => c_NormalAngle (90000 - 0) V (by omega))
      go_wp2_with fail
      refine (HNO.out _).mono ?_
      rintro e w9 ⟨rfl, rfl⟩
      go_wp2_with fail
      go_ret2
      exact ⟨by rw [HL.out, HLON.out]; rfl, HXQ.out⟩
    · have HL := hide (HLZ.out.2 (by omega))
      have hgz : ¬ la > 90000 := hgt
      have HNO := hide (fun (V : World) => c_NormalAngle (90000 - 0) V (by omega))
      go_wp2_with fail
      refine (HNO.out _).mono ?_
      rintro e w9 ⟨rfl, rfl⟩
      go_wp2_with fail
      go_ret2
      exact ⟨by rw [HL.out, HLON.out]; rfl, HXQ.out⟩
  · have HLON := hide (HLO.out.1 rfl)
    have HA1' := hide (HA1.out W0 HX0.out)
    generalize arcZ y x = al at *
    go_wp2_with fail
    refine HA1'.out.mono ?_
    rintro e w1 ⟨rfl, hx⟩
    have HX1 := hide (HX0.out.trans hx)
    replace HBA := hide (HBA.out.x hx)
    clear hx q0 q1 q2 ql HA1'
    have q0 := HBA.out.cell 0
    have q1 := HBA.out.cell 1
    have q2 := HBA.out.cell 2
    simp at q0 q1 q2
    have ql := HBA.out.lt
    go_wp2_with fail
    refine wp_region_x (by kernel_rfl) (by kernel_rfl) ?_
    repeat (go_big_quiet_step (fail))
    go_big_quiet_step ((go_at_call 85; exact call_q (HRO.out _)))
    repeat (go_big_quiet_step (fail))
    go_big_quiet_step ((go_at_call 84; exact call_x (HA2.out _ (HX1.out.trans ⟨_, rfl⟩))))
    repeat (go_big_quiet_step (fail))
    refine wpQuiet_nil ?_
    rintro _ ⟨qq, rfl⟩
    have HXQ := hide (HX1.out.trans ⟨qq, rfl⟩)
    clear q0 q1 q2 ql HBA
    clear HRO HA2 HA1 e0 e1 m0 m1
    generalize xt w1 qq = VQ at *
    generalize arcZ z rr = la at *
    by_cases hgt : 90000 < la
    · have HL := hide (HLZ.out.1 (by omega))
      have hgz : la > 90000 := hgt
      have HNO := hide (fun (V : World) => c_NormalAngle (90000 - al) V (by omega))
      go_wp2_with fail
      refine (HNO.out _).mono ?_
      rintro e w9 ⟨rfl, rfl⟩
      go_wp2_with fail
      go_ret2
      exact ⟨by rw [HL.out, HLON.out]; rfl, HXQ.out⟩
    · have HL := hide (HLZ.out.2 (by omega))
      have hgz : ¬ la > 90000 := hgt
      have HNO := hide (fun (V : World) => c_NormalAngle (90000 - al) V (by omega))
      go_wp2_with fail
      refine (HNO.out _).mono ?_
      rintro e w9 ⟨rfl, rfl⟩
      go_wp2_with fail
      go_ret2
      exact ⟨by rw [HL.out, HLON.out]; rfl, HXQ.out⟩

set_option maxHeartbeats 6400000 in
set_option maxRecDepth 100000 in
theorem c_l04Angles (v : V3) (w : World) (hv : v.in_ 62100) : Calls Tryd.prog 77 #[v.val] w fun e w' => e = .returned (.tuple #[.int .i64 (lonZ v), .int .i64 (latZ v)]) ∧ IsX w w' := by
  obtain ⟨x, y, z⟩ := v
  obtain ⟨h0, h1, h2⟩ := hv
  simp only at h0 h1 h2
  have m0 := sq_bd h0
  have m1 := sq_bd h1
  obtain ⟨p0, hp0⟩ : ∃ p, p = x * x := ⟨_, rfl⟩
  obtain ⟨p1, hp1⟩ : ∃ p, p = y * y := ⟨_, rfl⟩
  have HLA := hide (show latR ⟨x, y, z⟩ = arcZ z (rootZ (p0 + p1)) by rw [hp0, hp1]; rfl)
  rw [← hp0] at m0
  rw [← hp1] at m1
  have e0 : x * x = p0 := hp0.symm
  have e1 : y * y = p1 := hp1.symm
  have hr0 := rootZ_nn (p0 + p1)
  have hr1 : rootZ (p0 + p1) ≤ 100000 := rootZ_le (by omega) (by omega)
  have HRO := hide (fun (V : World) => c_l01Root (p0 + p1) V (by omega) (by omega))
  have HA2 := hide (fun V (hV : IsX w V) => c_l02Arc z (rootZ (p0 + p1)) V (by unfold smallI; omega) (by unfold smallI; omega))
  have HA1 := hide (fun V (hV : IsX w V) => c_l02Arc y x V (by unfold smallI; omega) (by unfold smallI; omega))
  generalize rootZ (p0 + p1) = rr at *
  have hlab := arcZ_bd z rr
  have HLZ := hide (show (90000 < arcZ z rr → latZ ⟨x, y, z⟩ = arcZ z rr - 360000) ∧ (¬ 90000 < arcZ z rr → latZ ⟨x, y, z⟩ = arcZ z rr) from ⟨fun h => by unfold latZ; rw [HLA.out, if_pos h], fun h => by unfold latZ; rw [HLA.out, if_neg h]⟩)
  obtain ⟨t, ht⟩ : ∃ t : Bool, t = (!(decide (x = 0) && decide (y = 0))) := ⟨_, rfl⟩
  have HT := hide ht
  have HLO := hide (show (t = true → lonZ ⟨x, y, z⟩ = arcZ y x) ∧ (t = false → lonZ ⟨x, y, z⟩ = 0) from ⟨fun h => by
    rw [ht, Bool.not_eq_true', Bool.and_eq_false_iff, decide_eq_false_iff_not, decide_eq_false_iff_not] at h
    unfold lonZ; rw [if_neg (fun hc => by rcases h with h | h; exact h hc.1; exact h hc.2)], fun h => by
    rw [ht, Bool.not_eq_false', Bool.and_eq_true, decide_eq_true_eq, decide_eq_true_eq] at h
    unfold lonZ; rw [if_pos h]⟩)
  have hlob := arcZ_bd y x
  generalize latZ ⟨x, y, z⟩ = lat at *
  generalize lonZ ⟨x, y, z⟩ = lon at *
  simp only [V3.val]
  clear hp0 hp1 HLA ht
  obtain ⟨W0, hW0⟩ : ∃ W, W = (w.alloc (.cells #[.int .i64 x, .int .i64 y, .int .i64 z] 48)) := ⟨_, rfl⟩
  obtain ⟨BA, hBA⟩ : ∃ B, B = w.heap.size := ⟨_, rfl⟩
  have HBA := hide (show Blk W0 BA 48 #[.int .i64 x, .int .i64 y, .int .i64 z] from by rw [hW0, hBA]; have h := (Blk.new w 48 #[.int .i64 x, .int .i64 y, .int .i64 z]); simpa using h)
  have HX0 := hide (show IsX w W0 from by rw [hW0]; exact (IsX.refl w).alloc _)
  go_enter Tryd.func77, Tryd.ntmps77
  go_upto_region 2 with fail
  (try simp only [World.size_alloc, Nat.add_assoc, Nat.reduceAdd])
  rw [← hW0]
  simp only [← hBA]
  clear hW0 hBA
  have q0 := HBA.out.cell 0
  have q1 := HBA.out.cell 1
  have q2 := HBA.out.cell 2
  simp at q0 q1 q2
  have ql := HBA.out.lt
  go_cut [13] from 6 to 13 (fun s wc => s = .bool t ∧ W0 = wc)
  case first =>
    by_cases hx : x = 0
    · subst hx
      by_cases hy : y = 0
      · subst hy
        go_wp2_with fail
        all_goals
          go_meet
          exact ⟨congrArg Value.bool (by rw [HT.out]; simp), rfl⟩
      · go_wp2_with fail
        all_goals
          go_meet
          exact ⟨congrArg Value.bool (by rw [HT.out]; simp [hy]), rfl⟩
    · go_wp2_with fail
      all_goals
        go_meet
        exact ⟨congrArg Value.bool (by rw [HT.out]; simp [hx]), rfl⟩
  obtain ⟨rfl, rfl⟩ := hcut
  go_upto_if 13 with fail
  cases t
  · have HLON := hide (HLO.out.2 rfl)
    go_wp2_with fail
    refine wp_region_x (by kernel_rfl) (by kernel_rfl) ?_
    repeat (go_big_quiet_step (fail))
    go_big_quiet_step ((go_at_call 93; exact call_q (HRO.out _)))
    repeat (go_big_quiet_step (fail))
    go_big_quiet_step ((go_at_call 92; exact call_x (HA2.out _ (HX0.out.trans ⟨_, rfl⟩))))
    repeat (go_big_quiet_step (fail))
    refine wpQuiet_nil ?_
    rintro _ ⟨qq, rfl⟩
    have HXQ := hide (HX0.out.trans ⟨qq, rfl⟩)
    clear q0 q1 q2 ql HBA
    clear HRO HA2 HA1 e0 e1 m0 m1
    generalize xt W0 qq = VQ at *
    generalize arcZ z rr = la at *
    by_cases hgt : 90000 < la
    · have HL := hide (HLZ.out.1 (by omega))
      have hgz : la > 90000 := hgt
      go_wp2_with fail
      go_ret2
      exact ⟨by rw [HL.out, HLON.out]; rfl, HXQ.out⟩
    · have HL := hide (HLZ.out.2 (by omega))
      have hgz : ¬ la > 90000 := hgt
      go_wp2_with fail
      go_ret2
      exact ⟨by rw [HL.out, HLON.out]; rfl, HXQ.out⟩
  · have HLON := hide (HLO.out.1 rfl)
    have HA1' := hide (HA1.out W0 HX0.out)
    generalize arcZ y x = al at *
    go_wp2_with fail
    refine HA1'.out.mono ?_
    rintro e w1 ⟨rfl, hx⟩
    have HX1 := hide (HX0.out.trans hx)
    replace HBA := hide (HBA.out.x hx)
    clear hx q0 q1 q2 ql HA1'
    have q0 := HBA.out.cell 0
    have q1 := HBA.out.cell 1
    have q2 := HBA.out.cell 2
    simp at q0 q1 q2
    have ql := HBA.out.lt
    go_wp2_with fail
    refine wp_region_x (by kernel_rfl) (by kernel_rfl) ?_
    repeat (go_big_quiet_step (fail))
    go_big_quiet_step ((go_at_call 93; exact call_q (HRO.out _)))
    repeat (go_big_quiet_step (fail))
    go_big_quiet_step ((go_at_call 92; exact call_x (HA2.out _ (HX1.out.trans ⟨_, rfl⟩))))
    repeat (go_big_quiet_step (fail))
    refine wpQuiet_nil ?_
    rintro _ ⟨qq, rfl⟩
    have HXQ := hide (HX1.out.trans ⟨qq, rfl⟩)
    clear q0 q1 q2 ql HBA
    clear HRO HA2 HA1 e0 e1 m0 m1
    generalize xt w1 qq = VQ at *
    generalize arcZ z rr = la at *
    by_cases hgt : 90000 < la
    · have HL := hide (HLZ.out.1 (by omega))
      have hgz : la > 90000 := hgt
      go_wp2_with fail
      go_ret2
      exact ⟨by rw [HL.out, HLON.out]; rfl, HXQ.out⟩
    · have HL := hide (HLZ.out.2 (by omega))
      have hgz : ¬ la > 90000 := hgt
      go_wp2_with fail
      go_ret2
      exact ⟨by rw [HL.out, HLON.out]; rfl, HXQ.out⟩

end Go.Proofs.YtadmpefbpklibaaDoor
