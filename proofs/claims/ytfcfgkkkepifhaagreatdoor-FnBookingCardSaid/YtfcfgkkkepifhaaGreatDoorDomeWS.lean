/- Joined texts: DomeW, DomeS. Conditions: told in each. -/
import Derived.Test.YtfcfgkkkepifhaaGreatDoorDomePH
import Derived.Test.YtfcfgkkkepifhaaGreatDoorSeatPlace
/- DomeW -/
namespace Go.Proofs.YtfcfgkkkepifhaaGreatDoor
set_option linter.unusedVariables false
open Go.RowKit

theorem dome_ok {x : DomeD} (h : x.okB = true) : 1000 ≤ x.Radius ∧ x.Radius ≤ 30000 ∧ x.Name.size ≤ maxLen := by
  simp only [DomeD.okB, Bool.and_eq_true] at h
  have h2 := inB_true.1 h.1.2
  have h1 := h.1.1
  refine ⟨by omega, by omega, ?_⟩
  simp only [nameB, nameL, Bool.and_eq_true, decide_eq_true_eq] at h1
  have h3 := h1.1.1.2
  have : x.Name.data.toList.length = x.Name.size := by simp
  rw [this] at h3
  unfold maxLen; omega
def placeP (p : Int × Int) : V3 := ⟨p.1, p.2, 0⟩
theorem placeP_val (p : Int × Int) : (placeP p).val = .agg #[.int .i64 p.1, .int .i64 p.2, .int .i64 0] := rfl
theorem place_bd {xs : List RingD} {k : Int} (hv : ringsB xs = true) (h0 : 0 ≤ k) (h1 : k < sumCount xs) : (placeP (placeZ xs k)).in_ 31000 := by
  have hcn := rings_cnt hv
  obtain ⟨n0, hlt, n1⟩ := seatN_bd hcn k h0 h1
  have hok := rings_ok hv _ (List.getElem_mem hlt)
  rw [placeZ_at hlt]
  generalize xs[seatI xs k] = rg at *
  generalize seatN xs k = sn at *
  have hz : 0 ≤ seatAng rg sn ∧ seatAng rg sn < 360000 := by unfold seatAng; omega
  have b1 := mul_bd2 (a := rg.Radius) (A := 30000) (by omega) (sinA_small hz.1 hz.2)
  have b2 := mul_bd2 (a := rg.Radius) (A := 30000) (by omega) (cosA_small hz.1)
  refine ⟨nearM_bd (a := rg.Radius * sinA (seatAng rg sn)) (by omega), nearM_bd (a := rg.Radius * cosA (seatAng rg sn)) (by omega), ?_⟩
  simp only [placeP]; omega
def scoreOf (R : Int) (xs : List RingD) (k : Int) : Int := scoreZ R (placeP (placeZ xs k))

set_option maxHeartbeats 6400000 in
set_option maxRecDepth 100000 in
theorem c_WorstView (x : DomeD) (s : V3) (w : World) (hok : x.okB = true) (hin : inSeat x.Radius s = true) (HTAB : ∀ W, IsX w W → sinTab W) : Calls Tryz.prog 71 #[domV x.Name x.Radius x.Tilt, s.val, .int .i64 45000] w fun e w' => e = .returned (.tuple #[.int .i64 (worstZ x.Radius s), .int .i64 0]) ∧ IsX w w' := by
  obtain ⟨hR0, hR1, hsz⟩ := dome_ok hok
  have hs := inSeat_bd hin hR1
  have HVD := hide (fun V => cb (c_ValidDome x V hsz) hok)
  have HWI := hide (fun V => cb (c_within 45000 15000 90000 V) (show inB 45000 15000 90000 = true by decide))
  have HII := hide (fun V => cb (c_isInside x.Name x.Radius x.Tilt s V ⟨hR0, hR1⟩ ⟨by have := hs.1; omega, by have := hs.2.1; omega, by have := hs.2.2; omega⟩) hin)
  have HT := hide HTAB
  have HWZ := hide (show worstZ x.Radius s = worstA x.Radius s 8 from rfl)
  generalize worstZ x.Radius s = wz at *
  obtain ⟨R, hRR⟩ : ∃ R, R = x.Radius := ⟨_, rfl⟩
  have HRR := hide (show viewZ x.Radius s = viewZ R s by rw [hRR])
  have HR2 := hide hRR
  rw [← hRR] at hR0 hR1 HWZ
  obtain ⟨s0, s1, s2, hse⟩ : ∃ s0 s1 s2 : Int, s = ⟨s0, s1, s2⟩ := ⟨s.x, s.y, s.z, rfl⟩
  have HSV : Hid (s.val = .agg #[.int .i64 s0, .int .i64 s1, .int .i64 s2]) := hide (by rw [hse]; rfl)
  have HAG := HSV.out
  simp only [domV] at HII ⊢
  rw [HAG] at HII ⊢
  clear HTAB hok hin hse HAG hRR
  obtain ⟨W0, hW0⟩ : ∃ W, W = ((w.alloc (.cells #[.string x.Name, .int .i64 x.Radius, .int .i64 x.Tilt] 38)).alloc (.cells #[.int .i64 s0, .int .i64 s1, .int .i64 s2] 29)) := ⟨_, rfl⟩
  obtain ⟨BD, hBD⟩ : ∃ B, B = w.heap.size := ⟨_, rfl⟩
  have HBD := hide (show Blk W0 BD 38 #[.string x.Name, .int .i64 x.Radius, .int .i64 x.Tilt] from by rw [hW0, hBD]; have h := ((Blk.new w 38 #[.string x.Name, .int .i64 x.Radius, .int .i64 x.Tilt]).alloc (.cells #[.int .i64 s0, .int .i64 s1, .int .i64 s2] 29)); simpa using h)
  obtain ⟨BS, hBS⟩ : ∃ B, B = BD + 1 := ⟨_, rfl⟩
  have HBS := hide (show Blk W0 BS 29 #[.int .i64 s0, .int .i64 s1, .int .i64 s2] from by rw [hW0, hBS, hBD]; have h := (Blk.new (w.alloc (.cells #[.string x.Name, .int .i64 x.Radius, .int .i64 x.Tilt] 38)) 29 #[.int .i64 s0, .int .i64 s1, .int .i64 s2]); simpa using h)
  have HX0 := hide (show IsX w W0 from by rw [hW0]; exact ((IsX.refl w).alloc _).alloc _)
  go_enter Tryz.func71, Tryz.ntmps71
  go_wp2_with fail
  (try simp only [World.size_alloc, Nat.add_assoc, Nat.reduceAdd])
  rw [← hW0]
  simp only [← hBD, ← hBS]
  clear hW0 hBD hBS
  refine (HVD.out _).mono ?_
  rintro e w1 ⟨rfl, hx⟩
  have HX1 := hide (HX0.out.trans hx)
  replace HBD := hide (HBD.out.x hx)
  replace HBS := hide (HBS.out.x hx)
  clear hx HX0
  go_wp2_with fail
  refine (HWI.out _).mono ?_
  rintro e w1' ⟨rfl, rfl⟩
  have d0 := HBD.out.cell 0
  have d1 := HBD.out.cell 1
  have d2 := HBD.out.cell 2
  simp at d0 d1 d2
  have dl := HBD.out.lt
  have q0 := HBS.out.cell 0
  have q1 := HBS.out.cell 1
  have q2 := HBS.out.cell 2
  simp at q0 q1 q2
  have ql := HBS.out.lt
  go_wp2_with fail
  refine (HII.out _).mono ?_
  rintro e W0 ⟨rfl, hx⟩
  have HX0 := hide (HX1.out.trans hx)
  have HBDp := hide (HBD.out.x hx)
  have HBSp := hide (HBS.out.x hx)
  clear hx d0 d1 d2 dl q0 q1 q2 ql HBD HBS HX1 HVD HWI HII
  go_wp2_with fail
  go_loopw [8, 9] (fun mv av wr => ∃ i : Nat, i ≤ 8 ∧ mv = .int .i64 (worstA R s i) ∧ av = .int .i64 ((i : Int) * 45000) ∧ IsX W0 wr) (fun _ av _ => 360000 - (intOf av).toNat)
  case atStart => exact ⟨0, by omega, rfl, rfl, IsX.refl _⟩
  case round =>
    obtain ⟨i, hi, rfl, rfl, p, rfl⟩ := hrel
    by_cases hlt : i < 8
    · have hlz : (i : Int) * 45000 < 360000 := by omega
      have hwa := worstA_bd R s i
      have HWS := hide (show worstA R s (i + 1) = worstH R s ((i : Int) * 45000) (worstA R s i) 3 from rfl)
      have HW0 := hide (show worstH R s ((i : Int) * 45000) (worstA R s i) 0 = worstA R s i from rfl)
      generalize worstA R s i = wa at *
      obtain ⟨az, haz⟩ : ∃ az, az = (i : Int) * 45000 := ⟨_, rfl⟩
      have HAZ := hide haz
      have hazb : 0 ≤ az ∧ az < 360000 := by omega
      rw [← haz] at hlz HWS HW0 ⊢
      clear haz
      have HXP := hide (show IsX w (xt W0 p) from HX0.out.trans ⟨p, rfl⟩)
      go_wp2_with fail
      go_loopw [8, 10] (fun mv hv wr => ∃ j : Nat, j ≤ 3 ∧ mv = .int .i64 (worstH R s az wa j) ∧ hv = .int .i64 ((j : Int) * 45000) ∧ Hid (IsX (xt W0 p) wr)) (fun _ hv _ => 135000 - (intOf hv).toNat)
      case atStart => exact ⟨0, by omega, by rw [HW0.out], rfl, hide (IsX.refl _)⟩
      case round =>
        obtain ⟨j, hj, rfl, rfl, HXJ⟩ := hrel
        by_cases hjl : j < 3
        · have hjz : (j : Int) * 45000 ≤ 90000 := by omega
          have hwb := worstH_bd (R := R) (s := s) (az := az) hwa j
          have HWJ := hide (show worstH R s az wa (j + 1) = max (worstH R s az wa j) (offZ R s az ((j : Int) * 45000)) from rfl)
          have hob := offZ_bd R s az ((j : Int) * 45000)
          have HOFF := hide (show offZ R s az ((j : Int) * 45000) = sepZ (dirZ az ((j : Int) * 45000)) (dirZ ((90000 - lonZ (viewZ R s az ((j : Int) * 45000))) % 360000) (latZ (viewZ R s az ((j : Int) * 45000)))) from rfl)
          generalize worstH R s az wa j = wj at *
          generalize offZ R s az ((j : Int) * 45000) = off at *
          obtain ⟨al, hal⟩ : ∃ al, al = (j : Int) * 45000 := ⟨_, rfl⟩
          have HAL := hide hal
          have halb : 0 ≤ al ∧ al ≤ 90000 := by omega
          rw [← hal] at hjz HOFF ⊢
          clear hal
          have HXW := hide (HXP.out.trans HXJ.out)
          have HBDj := hide ((HBDp.out.x ⟨p, rfl⟩).x HXJ.out)
          have HBSj := hide ((HBSp.out.x ⟨p, rfl⟩).x HXJ.out)
          have HVI := hide (fun V (hV : IsX w V) => c_viewOf x.Name x.Radius x.Tilt s az al V (by have := HR2.out; omega) hs (by omega) (by unfold angI; omega) (fun U hU => HT.out U (hV.trans hU)))
          have HAN := hide (fun V (hV : IsX w V) => c_domeAngles (viewZ R s az al) V (viewZ_bd (by omega) hs) (fun U hU => HT.out U (hV.trans hU)))
          have hlab := latZ_bd (viewZ R s az al)
          have HD1 := hide (fun V (hV : IsX w V) => c_directionOf az al V (by unfold angI; omega) (by unfold angI; omega) (fun U hU => HT.out U (hV.trans hU)))
          have HD2 := hide (fun V (hV : IsX w V) => c_directionOf ((90000 - lonZ (viewZ R s az al)) % 360000) (latZ (viewZ R s az al)) V (angI_norm _) (by unfold angI; omega) (fun U hU => HT.out U (hV.trans hU)))
          have HSE := hide (fun V (hV : IsX w V) => c_Separation (dirZ az al) (dirZ ((90000 - lonZ (viewZ R s az al)) % 360000) (latZ (viewZ R s az al))) V (dirZ_bd _ _) (dirZ_bd _ _) (fun U hU => HT.out U (hV.trans hU)))
          rw [← HOFF.out] at HSE
          rw [HRR.out] at HVI
          generalize sepC (dirZ az al) (dirZ ((90000 - lonZ (viewZ R s az al)) % 360000) (latZ (viewZ R s az al))) = sc at *
          generalize (dirZ az al).val = v1 at *
          generalize (dirZ ((90000 - lonZ (viewZ R s az al)) % 360000) (latZ (viewZ R s az al))).val = v2 at *
          generalize (viewZ R s az al).val = v3 at *
          generalize (90000 - lonZ (viewZ R s az al)) % 360000 = aa at *
          generalize latZ (viewZ R s az al) = hh at *
          clear HOFF
          rw [HSV.out] at HVI
          simp only [domV] at HVI
          have d0 := HBDj.out.cell 0
          have d1 := HBDj.out.cell 1
          have d2 := HBDj.out.cell 2
          have q0 := HBSj.out.cell 0
          have q1 := HBSj.out.cell 1
          have q2 := HBSj.out.cell 2
          simp at d0 d1 d2 q0 q1 q2
          have dl := HBDj.out.lt
          have ql := HBSj.out.lt
          go_wp2_with fail
          refine (HVI.out _ HXW.out).mono ?_
          rintro e w2 ⟨rfl, hx⟩
          have HX2 := hide (HXJ.out.trans hx)
          have HXW2 := hide (HXW.out.trans hx)
          clear hx d0 d1 d2 q0 q1 q2 dl ql
          go_wp2_with fail
          refine (HAN.out _ HXW2.out).mono ?_
          rintro e w3 ⟨rfl, hx⟩
          have HX3 := hide (HX2.out.trans hx)
          have HXW3 := hide (HXW2.out.trans hx)
          clear hx
          go_wp2_with fail
          refine (HD1.out _ HXW3.out).mono ?_
          rintro e w4 ⟨rfl, hx⟩
          have HX4 := hide (HX3.out.trans hx)
          have HXW4 := hide (HXW3.out.trans hx)
          clear hx
          go_wp2_with fail
          refine (HD2.out _ HXW4.out).mono ?_
          rintro e w5 ⟨rfl, hx⟩
          have HX5 := hide (HX4.out.trans hx)
          have HXW5 := hide (HXW4.out.trans hx)
          clear hx
          go_wp2_with fail
          refine (HSE.out _ HXW5.out).mono ?_
          rintro e w6 ⟨rfl, hx⟩
          have HX6 := hide (HX5.out.trans hx)
          clear hx
          go_wp2_with fail
          all_goals
            go_roundw
            case rel => exact ⟨j + 1, by omega, congrArg (Value.int .i64) (by have h := HWJ.out; omega), congrArg (Value.int .i64) (by rw [HAL.out]; omega), HX6⟩
            case measure => have := HAL.out; simp [intOf]; omega
        · obtain rfl : j = 3 := by omega
          have hjz : ¬ ((3 : Nat) : Int) * 45000 ≤ 90000 := by omega
          have hjz2 : ¬ ((3 : Int) * 45000 ≤ 90000) := by omega
          rw [show ((3 : Nat) : Int) * 45000 = 135000 from rfl]
          have hwb := worstH_bd (R := R) (s := s) (az := az) hwa 3
          rw [← HWS.out] at hwb ⊢
          go_wp2_with fail
          go_roundw
          case rel => exact ⟨i + 1, by omega, rfl, congrArg (Value.int .i64) (by rw [HAZ.out]; omega), (IsX.trans ⟨p, rfl⟩ HXJ.out)⟩
          case measure => have := HAZ.out; simp [intOf]; omega
    · obtain rfl : i = 8 := by omega
      have hlz : ¬ ((8 : Nat) : Int) * 45000 < 360000 := by omega
      rw [show ((8 : Nat) : Int) * 45000 = 360000 from rfl]
      go_wp2_with fail
      go_ret2
      exact ⟨by rw [HWZ.out]; rfl, HX0.out.trans ⟨p, rfl⟩⟩

set_option maxHeartbeats 6400000 in
set_option maxRecDepth 100000 in
theorem c_l09Worst (b : Nat) (R : Int) (s : V3) (w : World) (hR : 1000 ≤ R ∧ R ≤ 30000) (hin : inSeat R s = true) (hbd : b < w.heap.size) (hbc : w.cell? ⟨b, 1, none⟩ = some (.int .i64 R)) : Calls Tryz.prog 90 #[.pointer (some ⟨b, 0, none⟩), s.val, .int .i64 45000] w fun e w' => e = .returned (.int .i64 (worstZ R s)) ∧ IsX w w' := by
  have hs := inSeat_bd hin hR.2
  have HWZ := hide (show worstZ R s = worstA R s 8 from rfl)
  have HBC := hide (show ∀ V, IsX w V → V.cell? ⟨b, 1, none⟩ = some (.int .i64 R) ∧ b < V.heap.size from fun V hV => ⟨keep hV hbd hbc, Nat.lt_of_lt_of_le hbd hV.size⟩)
  generalize worstZ R s = wz at *
  obtain ⟨s0, s1, s2, hse⟩ : ∃ s0 s1 s2 : Int, s = ⟨s0, s1, s2⟩ := ⟨s.x, s.y, s.z, rfl⟩
  have HSV : Hid (s.val = .agg #[.int .i64 s0, .int .i64 s1, .int .i64 s2]) := hide (by rw [hse]; rfl)
  have HAG := HSV.out
  rw [HAG]
  clear hin hse HAG hbd hbc
  obtain ⟨W0, hW0⟩ : ∃ W, W = (w.alloc (.cells #[.int .i64 s0, .int .i64 s1, .int .i64 s2] 29)) := ⟨_, rfl⟩
  obtain ⟨BS, hBS⟩ : ∃ B, B = w.heap.size := ⟨_, rfl⟩
  have HBS := hide (show Blk W0 BS 29 #[.int .i64 s0, .int .i64 s1, .int .i64 s2] from by rw [hW0, hBS]; have h := (Blk.new w 29 #[.int .i64 s0, .int .i64 s1, .int .i64 s2]); simpa using h)
  have HX0 := hide (show IsX w W0 from by rw [hW0]; exact (IsX.refl w).alloc _)
  have HBSp := hide HBS.out
  go_enter Tryz.func90, Tryz.ntmps90
  go_wp2_with fail
  (try simp only [World.size_alloc, Nat.add_assoc, Nat.reduceAdd])
  rw [← hW0]
  simp only [← hBS]
  clear hW0 hBS
  go_loopw [7, 8] (fun mv av wr => ∃ i : Nat, i ≤ 8 ∧ mv = .int .i64 (worstA R s i) ∧ av = .int .i64 ((i : Int) * 45000) ∧ IsX W0 wr) (fun _ av _ => 360000 - (intOf av).toNat)
  case atStart => exact ⟨0, by omega, rfl, rfl, IsX.refl _⟩
  case round =>
    obtain ⟨i, hi, rfl, rfl, p, rfl⟩ := hrel
    by_cases hlt : i < 8
    · have hlz : (i : Int) * 45000 < 360000 := by omega
      have hwa := worstA_bd R s i
      have HWS := hide (show worstA R s (i + 1) = worstH R s ((i : Int) * 45000) (worstA R s i) 3 from rfl)
      have HW0 := hide (show worstH R s ((i : Int) * 45000) (worstA R s i) 0 = worstA R s i from rfl)
      generalize worstA R s i = wa at *
      obtain ⟨az, haz⟩ : ∃ az, az = (i : Int) * 45000 := ⟨_, rfl⟩
      have HAZ := hide haz
      have hazb : 0 ≤ az ∧ az < 360000 := by omega
      rw [← haz] at hlz HWS HW0 ⊢
      clear haz
      have HXP := hide (show IsX w (xt W0 p) from HX0.out.trans ⟨p, rfl⟩)
      go_wp2_with fail
      go_loopw [7, 9] (fun mv hv wr => ∃ j : Nat, j ≤ 3 ∧ mv = .int .i64 (worstH R s az wa j) ∧ hv = .int .i64 ((j : Int) * 45000) ∧ Hid (IsX (xt W0 p) wr)) (fun _ hv _ => 135000 - (intOf hv).toNat)
      case atStart => exact ⟨0, by omega, by rw [HW0.out], rfl, hide (IsX.refl _)⟩
      case round =>
        obtain ⟨j, hj, rfl, rfl, HXJ⟩ := hrel
        by_cases hjl : j < 3
        · have hjz : (j : Int) * 45000 ≤ 90000 := by omega
          have hwb := worstH_bd (R := R) (s := s) (az := az) hwa j
          have HWJ := hide (show worstH R s az wa (j + 1) = max (worstH R s az wa j) (offZ R s az ((j : Int) * 45000)) from rfl)
          have hob := offZ_bd R s az ((j : Int) * 45000)
          have HOFF := hide (show offZ R s az ((j : Int) * 45000) = sepZ (dirZ az ((j : Int) * 45000)) (dirZ ((90000 - lonZ (viewZ R s az ((j : Int) * 45000))) % 360000) (latZ (viewZ R s az ((j : Int) * 45000)))) from rfl)
          generalize worstH R s az wa j = wj at *
          generalize offZ R s az ((j : Int) * 45000) = off at *
          obtain ⟨al, hal⟩ : ∃ al, al = (j : Int) * 45000 := ⟨_, rfl⟩
          have HAL := hide hal
          have halb : 0 ≤ al ∧ al ≤ 90000 := by omega
          rw [← hal] at hjz HOFF ⊢
          clear hal
          have HXW := hide (HXP.out.trans HXJ.out)
          have HBSj := hide ((HBSp.out.x ⟨p, rfl⟩).x HXJ.out)
          have HVI := hide (c_l09View b R s az al wr (by omega) hs (by omega) (by unfold angI; omega) (HBC.out _ HXW.out).2 (HBC.out _ HXW.out).1)
          have hlab := latZ_bd (viewZ R s az al)
          have HAP := hide (fun (V : World) => c_l09Apart az al ((90000 - lonZ (viewZ R s az al)) % 360000) (latZ (viewZ R s az al)) V (by unfold angI; omega) (by unfold angI; omega) (angI_norm _) (by unfold angI; omega))
          rw [← HOFF.out] at HAP
          generalize (90000 - lonZ (viewZ R s az al)) % 360000 = aa at *
          generalize latZ (viewZ R s az al) = hh at *
          generalize lenZ (viewZ R s az al) = le at *
          clear HOFF
          rw [HSV.out] at HVI
          have HMX := hide (fun (V : World) => c_domMax wj off V)
          have q0 := HBSj.out.cell 0
          have q1 := HBSj.out.cell 1
          have q2 := HBSj.out.cell 2
          simp at q0 q1 q2
          have ql := HBSj.out.lt
          go_wp2_with fail
          refine HVI.out.mono ?_
          rintro e w2 ⟨rfl, hx⟩
          have HX2 := hide (HXJ.out.trans hx)
          clear hx q0 q1 q2 ql
          go_wp2_with fail
          refine (HAP.out _).mono ?_
          rintro e w3 ⟨rfl, hx⟩
          have HX3 := hide (HX2.out.trans hx)
          clear hx
          go_wp2_with fail
          refine (HMX.out _).mono ?_
          rintro e w4 ⟨rfl, rfl⟩
          go_wp2_with fail
          all_goals
            go_roundw
            case rel => exact ⟨j + 1, by omega, congrArg (Value.int .i64) (by have h := HWJ.out; omega), congrArg (Value.int .i64) (by rw [HAL.out]; omega), HX3⟩
            case measure => have := HAL.out; simp [intOf]; omega
        · obtain rfl : j = 3 := by omega
          have hjz : ¬ ((3 : Nat) : Int) * 45000 ≤ 90000 := by omega
          have hjz2 : ¬ ((3 : Int) * 45000 ≤ 90000) := by omega
          rw [show ((3 : Nat) : Int) * 45000 = 135000 from rfl]
          have hwb := worstH_bd (R := R) (s := s) (az := az) hwa 3
          rw [← HWS.out] at hwb ⊢
          go_wp2_with fail
          go_roundw
          case rel => exact ⟨i + 1, by omega, rfl, congrArg (Value.int .i64) (by rw [HAZ.out]; omega), (IsX.trans ⟨p, rfl⟩ HXJ.out)⟩
          case measure => have := HAZ.out; simp [intOf]; omega
    · obtain rfl : i = 8 := by omega
      have hlz : ¬ ((8 : Nat) : Int) * 45000 < 360000 := by omega
      rw [show ((8 : Nat) : Int) * 45000 = 360000 from rfl]
      go_wp2_with fail
      go_ret
      exact ⟨by rw [HWZ.out]; rfl, HX0.out.trans ⟨p, rfl⟩⟩

end Go.Proofs.YtfcfgkkkepifhaaGreatDoor

/- DomeS -/
namespace Go.Proofs.YtfcfgkkkepifhaaGreatDoor
set_option linter.unusedVariables false
open Go.RowKit

theorem score_in {R : Int} {s : V3} (h : inSeat R s = true) : scoreZ R s = max 0 (1000 - worstZ R s / 90) := by simp [scoreZ, h]
theorem score_out {R : Int} {s : V3} (h : inSeat R s = false) : scoreZ R s = 0 := by simp [scoreZ, h]
def scoreW (x : DomeD) (xs : List RingD) (k : Int) : Int := if x.okB = true ∧ askR xs k = 0 then scoreOf x.Radius xs k else 0
def scoreK (x : DomeD) (xs : List RingD) (k : Int) : Int := if x.okB = true then askR xs k else 1

set_option maxHeartbeats 6400000 in
set_option maxRecDepth 100000 in
theorem c_seatScore (x : DomeD) (A0 : Option Addr) (c0 : Nat) (xs : List RingD) (k : Int) (w : World) (hok : x.okB = true) (hv : ringsB xs = true) (h0 : 0 ≤ k) (h1 : k < sumCount xs) (hn : xs.length ≤ 1099511627776) (hA : Rd RingD.cells 5 w A0 xs) (HTAB : ∀ W, IsX w W → sinTab W) :
    Calls Tryz.prog 36 #[domV x.Name x.Radius x.Tilt, .slice A0 xs.length c0, .int .i64 k] w fun e w' => e = .returned (.int .i64 (scoreOf x.Radius xs k)) ∧ IsX w w' := by
  obtain ⟨hR0, hR1, hsz⟩ := dome_ok hok
  have hpb := place_bd hv h0 h1
  have HPL := hide (fun V (hV : IsX w V) => c_seatPlace A0 c0 xs k V hv h0 h1 hn (hA.x hV) (fun U hU => HTAB U (hV.trans hU)))
  have HII := hide (fun (V : World) => c_isInside x.Name x.Radius x.Tilt (placeP (placeZ xs k)) V ⟨hR0, hR1⟩ ⟨by have := hpb.1; omega, by have := hpb.2.1; omega, by have := hpb.2.2; omega⟩)
  have HWV := hide (fun V (hV : IsX w V) hin => c_WorstView x (placeP (placeZ xs k)) V hok hin (fun U hU => HTAB U (hV.trans hU)))
  have hwb := worstA_bd x.Radius (placeP (placeZ xs k)) 8
  have hwb' : 0 ≤ worstZ x.Radius (placeP (placeZ xs k)) ∧ worstZ x.Radius (placeP (placeZ xs k)) < 360000 := hwb
  have HSO := hide (show scoreOf x.Radius xs k = scoreZ x.Radius (placeP (placeZ xs k)) from rfl)
  have HIN := hide (fun h => score_in (R := x.Radius) (s := placeP (placeZ xs k)) h)
  have HOUT := hide (fun h => score_out (R := x.Radius) (s := placeP (placeZ xs k)) h)
  generalize scoreOf x.Radius xs k = sc at *
  generalize scoreZ x.Radius (placeP (placeZ xs k)) = sz at *
  generalize worstZ x.Radius (placeP (placeZ xs k)) = wz at *
  generalize hin : inSeat x.Radius (placeP (placeZ xs k)) = inn at *
  generalize placeZ xs k = pp at *
  obtain ⟨px, py⟩ := pp
  simp only [placeP_val, domV] at HPL HII HWV ⊢
  clear hwb hpb hA hn h0 h1 hv HTAB hok
  obtain ⟨W0, hW0⟩ : ∃ W, W = (w.alloc (.cells #[.string x.Name, .int .i64 x.Radius, .int .i64 x.Tilt] 38)) := ⟨_, rfl⟩
  obtain ⟨BD, hBD⟩ : ∃ B, B = w.heap.size := ⟨_, rfl⟩
  have HBD := hide (show Blk W0 BD 38 #[.string x.Name, .int .i64 x.Radius, .int .i64 x.Tilt] from by rw [hW0, hBD]; have h := (Blk.new w 38 #[.string x.Name, .int .i64 x.Radius, .int .i64 x.Tilt]); simpa using h)
  have HX0 := hide (show IsX w W0 from by rw [hW0]; exact (IsX.refl w).alloc _)
  go_enter Tryz.func36, Tryz.ntmps36
  go_wp2_with fail
  (try simp only [World.size_alloc, Nat.add_assoc, Nat.reduceAdd])
  rw [← hW0]
  simp only [← hBD]
  clear hW0 hBD
  refine (HPL.out _ HX0.out).mono ?_
  rintro e w1 ⟨rfl, hx⟩
  have HX1 := hide (HX0.out.trans hx)
  replace HBD := hide (HBD.out.x hx)
  clear hx
  have d0 := HBD.out.cell 0
  have d1 := HBD.out.cell 1
  have d2 := HBD.out.cell 2
  simp at d0 d1 d2
  have dl := HBD.out.lt
  go_wp2_with fail
  obtain ⟨W2, hW2⟩ : ∃ W, W = w1.alloc (.cells #[.int .i64 px, .int .i64 py, .int .i64 0] 29) := ⟨_, rfl⟩
  obtain ⟨BP, hBP⟩ : ∃ B, B = w1.heap.size := ⟨_, rfl⟩
  have HBP := hide (show Blk W2 BP 29 #[.int .i64 px, .int .i64 py, .int .i64 0] from by rw [hW2, hBP]; exact Blk.new _ _ _)
  have HX2 := hide (show IsX w W2 from hW2 ▸ HX1.out.alloc _)
  replace HBD := hide (show Blk W2 BD 38 #[.string x.Name, .int .i64 x.Radius, .int .i64 x.Tilt] from hW2 ▸ HBD.out.alloc _)
  rw [← hW2, ← hBP]
  clear hW2 hBP d0 d1 d2 dl
  refine (HII.out _).mono ?_
  rintro e w3 ⟨rfl, hx⟩
  have HX3 := hide (HX2.out.trans hx)
  replace HBD := hide (HBD.out.x hx)
  replace HBP := hide (HBP.out.x hx)
  clear hx
  have d0 := HBD.out.cell 0
  have d1 := HBD.out.cell 1
  have d2 := HBD.out.cell 2
  simp at d0 d1 d2
  have dl := HBD.out.lt
  have q0 := HBP.out.cell 0
  have q1 := HBP.out.cell 1
  have q2 := HBP.out.cell 2
  simp at q0 q1 q2
  have ql := HBP.out.lt
  cases inn
  · have HR := hide (HOUT.out rfl)
    go_wp2_with fail
    go_ret
    exact ⟨by rw [HSO.out, HR.out]; rfl, HX3.out⟩
  · have HR := hide (HIN.out rfl)
    have HV := hide (HWV.out _ HX3.out rfl)
    have hq : wz.tdiv 90 = wz / 90 := Int.tdiv_eq_ediv_of_nonneg (by omega)
    have hqb : 0 ≤ wz / 90 ∧ wz / 90 ≤ 4000 := by omega
    generalize wz / 90 = qz at *
    clear HWV HIN HOUT HII
    go_wp2_with fail
    refine HV.out.mono ?_
    rintro e w4 ⟨rfl, hx⟩
    have HX4 := hide (HX3.out.trans hx)
    clear hx
    go_wp2_with fail
    all_goals
      go_ret
      exact ⟨by rw [HSO.out, HR.out]; exact congrArg (fun z => Ending.returned (Value.int .i64 z)) (by omega), HX4.out⟩

set_option maxHeartbeats 6400000 in
set_option maxRecDepth 100000 in
theorem c_l23Score (b : Nat) (R : Int) (s : V3) (w : World) (hR : 1000 ≤ R ∧ R ≤ 30000) (hs : s.in_ 100000000) (hbd : b < w.heap.size) (hbc : w.cell? ⟨b, 1, none⟩ = some (.int .i64 R)) : Calls Tryz.prog 59 #[.pointer (some ⟨b, 0, none⟩), s.val] w fun e w' => e = .returned (.int .i64 (scoreZ R s)) ∧ IsX w w' := by
  have HII := hide (fun V (hV : IsX w V) => c_l09Seat b R s V hR hs (Nat.lt_of_lt_of_le hbd hV.size) (keep hV hbd hbc))
  have HWV := hide (fun V (hV : IsX w V) hin => c_l09Worst b R s V hR hin (Nat.lt_of_lt_of_le hbd hV.size) (keep hV hbd hbc))
  have hwb := worstA_bd R s 8
  have hwb' : 0 ≤ worstZ R s ∧ worstZ R s < 360000 := hwb
  have HIN := hide (fun h => score_in (R := R) (s := s) h)
  have HOUT := hide (fun h => score_out (R := R) (s := s) h)
  generalize scoreZ R s = sz at *
  generalize worstZ R s = wz at *
  generalize hin : inSeat R s = inn at *
  obtain ⟨s0, s1, s2⟩ := s
  simp only [V3.val] at HII HWV ⊢
  clear hwb hbd hbc hs
  obtain ⟨W0, hW0⟩ : ∃ W, W = (w.alloc (.cells #[.int .i64 s0, .int .i64 s1, .int .i64 s2] 29)) := ⟨_, rfl⟩
  obtain ⟨BS, hBS⟩ : ∃ B, B = w.heap.size := ⟨_, rfl⟩
  have HBS := hide (show Blk W0 BS 29 #[.int .i64 s0, .int .i64 s1, .int .i64 s2] from by rw [hW0, hBS]; have h := (Blk.new w 29 #[.int .i64 s0, .int .i64 s1, .int .i64 s2]); simpa using h)
  have HX0 := hide (show IsX w W0 from by rw [hW0]; exact (IsX.refl w).alloc _)
  go_enter Tryz.func59, Tryz.ntmps59
  go_wp2_with fail
  (try simp only [World.size_alloc, Nat.add_assoc, Nat.reduceAdd])
  rw [← hW0]
  simp only [← hBS]
  clear hW0 hBS
  refine (HII.out _ HX0.out).mono ?_
  rintro e w3 ⟨rfl, hx⟩
  have HX3 := hide (HX0.out.trans hx)
  replace HBS := hide (HBS.out.x hx)
  clear hx
  have q0 := HBS.out.cell 0
  have q1 := HBS.out.cell 1
  have q2 := HBS.out.cell 2
  simp at q0 q1 q2
  have ql := HBS.out.lt
  cases inn
  · have HR := hide (HOUT.out rfl)
    go_wp2_with fail
    go_ret
    exact ⟨by rw [HR.out]; rfl, HX3.out⟩
  · have HR := hide (HIN.out rfl)
    have HV := hide (HWV.out _ HX3.out rfl)
    have hq : wz.tdiv 90 = wz / 90 := Int.tdiv_eq_ediv_of_nonneg (by omega)
    have hqb : 0 ≤ wz / 90 ∧ wz / 90 ≤ 4000 := by omega
    have HMX := hide (fun (V : World) => c_domMax 0 (1000 - wz / 90) V)
    generalize wz / 90 = qz at *
    clear HWV HIN HOUT HII
    go_wp2_with fail
    refine HV.out.mono ?_
    rintro e w4 ⟨rfl, hx⟩
    have HX4 := hide (HX3.out.trans hx)
    clear hx
    go_wp2_with fail
    refine (HMX.out _).mono ?_
    rintro e w5 ⟨rfl, rfl⟩
    go_wp2_with fail
    go_ret
    exact ⟨by rw [HR.out]; rfl, HX4.out⟩

end Go.Proofs.YtfcfgkkkepifhaaGreatDoor
