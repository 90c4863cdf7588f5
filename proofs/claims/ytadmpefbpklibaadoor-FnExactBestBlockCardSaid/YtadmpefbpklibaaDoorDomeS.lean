/- Scores of seats: what the reference and the program compute. Conditions: lists no longer than 2^40; the table of sines as the program's text lays it. -/
import Derived.Test.YtadmpefbpklibaaDoorDomeW
namespace Go.Proofs.YtadmpefbpklibaaDoor
set_option linter.unusedVariables false
open Go.RowKit

theorem score_in {R : Int} {s : V3} (h : inSeat R s = true) : scoreZ R s = max 0 (1000 - worstZ R s / 90) := by simp [scoreZ, h]
theorem score_out {R : Int} {s : V3} (h : inSeat R s = false) : scoreZ R s = 0 := by simp [scoreZ, h]
def scoreW (x : DomeD) (xs : List RingD) (k : Int) : Int := if x.okB = true ∧ askR xs k = 0 then scoreOf x.Radius xs k else 0
def scoreK (x : DomeD) (xs : List RingD) (k : Int) : Int := if x.okB = true then askR xs k else 1

set_option maxHeartbeats 6400000 in
set_option maxRecDepth 100000 in
theorem c_seatScore (x : DomeD) (A0 : Option Addr) (c0 : Nat) (xs : List RingD) (k : Int) (w : World) (hok : x.okB = true) (hv : ringsB xs = true) (h0 : 0 ≤ k) (h1 : k < sumCount xs) (hn : xs.length ≤ 1099511627776) (hA : Rd RingD.cells 5 w A0 xs) (HTAB : ∀ W, IsX w W → sinTab W) :
    Calls Tryd.prog 27 #[domV x.Name x.Radius x.Tilt, .slice A0 xs.length c0, .int .i64 k] w fun e w' => e = .returned (.int .i64 (scoreOf x.Radius xs k)) ∧ IsX w w' := by
  obtain ⟨hR0, hR1, hsz⟩ := dome_ok hok
  have hpb := place_bd hv h0 h1
  have HPL := hide (fun V (hV : IsX w V) => c_seatPlace A0 c0 xs k V hv h0 h1 hn (hA.x hV) (fun U hU => HTAB U (hV.trans hU)))
  have HII := hide (fun (V : World) => c_isInside x.Name x.Radius x.Tilt (placeP (placeZ xs k)) V ⟨hR0, hR1⟩ ⟨by have := hpb.1; omega, by have := hpb.2.1; omega, by have := hpb.2.2; omega⟩)
  have HWV := hide (fun V (hV : IsX w V) hin => c_WorstView x (placeP (placeZ xs k)) V hok hin (fun U hU => HTAB U (hV.trans hU)))
  have hwb := worstA_bd x.Radius (placeP (placeZ xs k)) 8
  have hwb' : 0 ≤ worstZ x.Radius (placeP (placeZ xs k)) ∧ worstZ x.Radius (placeP (placeZ xs k)) < 360000 := hwb
  have HSO := hide (show scoreOf x.Radius xs k = scoreZ x.Radius (placeP (placeZ xs k)) from rfl)
  have HIN := hide (fun h => score_in (R := x.Radius) (s := placeP (placeZ xs k)) h)
  have HOUT := hide (fun h => score_out (R := x.Radius) (s := placeP (placeZ xs k)) h)
  generalize scoreOf x.Radius xs k = sc at *
  generalize scoreZ x.Radius (placeP (placeZ xs k)) = sz at *
  generalize worstZ x.Radius (placeP (placeZ xs k)) = wz at *
  generalize hin : inSeat x.Radius (placeP (placeZ xs k)) = inn at *
  generalize placeZ xs k = pp at *
  obtain ⟨px, py⟩ := pp
  simp only [placeP_val, domV] at HPL HII HWV ⊢
  clear hwb hpb hA hn h0 h1 hv HTAB hok
  obtain ⟨W0, hW0⟩ : ∃ W, W = (w.alloc (.cells #[.string x.Name, .int .i64 x.Radius, .int .i64 x.Tilt] 29)) := ⟨_, rfl⟩
  obtain ⟨BD, hBD⟩ : ∃ B, B = w.heap.size := ⟨_, rfl⟩
  have HBD := hide (show Blk W0 BD 29 #[.string x.Name, .int .i64 x.Radius, .int .i64 x.Tilt] from by rw [hW0, hBD]; have h := (Blk.new w 29 #[.string x.Name, .int .i64 x.Radius, .int .i64 x.Tilt]); simpa using h)
  have HX0 := hide (show IsX w W0 from by rw [hW0]; exact (IsX.refl w).alloc _)
  go_enter Tryd.func27, Tryd.ntmps27
  go_wp2_with fail
  (try simp only [World.size_alloc, Nat.add_assoc, Nat.reduceAdd])
  rw [← hW0]
  simp only [← hBD]
  clear hW0 hBD
  refine (HPL.out _ HX0.out).mono ?_
  rintro e w1 ⟨rfl, hx⟩
  have HX1 := hide (HX0.out.trans hx)
  replace HBD := hide (HBD.out.x hx)
  clear hx
  have d0 := HBD.out.cell 0
  have d1 := HBD.out.cell 1
  have d2 := HBD.out.cell 2
  simp at d0 d1 d2
  have dl := HBD.out.lt
  go_wp2_with fail
  obtain ⟨W2, hW2⟩ : ∃ W, W = w1.alloc (.cells #[.int .i64 px, .int .i64 py, .int .i64 0] 48) := ⟨_, rfl⟩
  obtain ⟨BP, hBP⟩ : ∃ B, B = w1.heap.size := ⟨_, rfl⟩
  have HBP := hide (show Blk W2 BP 48 #[.int .i64 px, .int .i64 py, .int .i64 0] from by rw [hW2, hBP]; exact Blk.new _ _ _)
  have HX2 := hide (show IsX w W2 from hW2 ▸ HX1.out.alloc _)
  replace HBD := hide (show Blk W2 BD 29 #[.string x.Name, .int .i64 x.Radius, .int .i64 x.Tilt] from hW2 ▸ HBD.out.alloc _)
  rw [← hW2, ← hBP]
  clear hW2 hBP d0 d1 d2 dl
  refine (HII.out _).mono ?_
  rintro e w3 ⟨rfl, hx⟩
  have HX3 := hide (HX2.out.trans hx)
  replace HBD := hide (HBD.out.x hx)
  replace HBP := hide (HBP.out.x hx)
  clear hx
  have d0 := HBD.out.cell 0
  have d1 := HBD.out.cell 1
  have d2 := HBD.out.cell 2
  simp at d0 d1 d2
  have dl := HBD.out.lt
  have q0 := HBP.out.cell 0
  have q1 := HBP.out.cell 1
  have q2 := HBP.out.cell 2
  simp at q0 q1 q2
  have ql := HBP.out.lt
  cases inn
  · have HR := hide (HOUT.out rfl)
    go_wp2_with fail
    go_ret
    exact ⟨by rw [HSO.out, HR.out]; rfl, HX3.out⟩
  · have HR := hide (HIN.out rfl)
    have HV := hide (HWV.out _ HX3.out rfl)
    have hq : wz.tdiv 90 = wz / 90 := Int.tdiv_eq_ediv_of_nonneg (by omega)
    have hqb : 0 ≤ wz / 90 ∧ wz / 90 ≤ 4000 := by omega
    generalize wz / 90 = qz at *
    clear HWV HIN HOUT HII
    go_wp2_with fail
    refine HV.out.mono ?_
    rintro e w4 ⟨rfl, hx⟩
    have HX4 := hide (HX3.out.trans hx)
    clear hx
    go_wp2_with fail
    all_goals
      go_ret
      exact ⟨by rw [HSO.out, HR.out]; exact congrArg (fun z => Ending.returned (Value.int .i64 z)) (by omega), HX4.out⟩

set_option maxHeartbeats 6400000 in
set_option maxRecDepth 100000 in
theorem c_l23Score (b : Nat) (R : Int) (s : V3) (w : World) (hR : 1000 ≤ R ∧ R ≤ 30000) (hs : s.in_ 100000000) (hbd : b < w.heap.size) (hbc : w.cell? ⟨b, 1, none⟩ = some (.int .i64 R)) : Calls Tryd.prog 21 #[.pointer (some ⟨b, 0, none⟩), s.val] w fun e w' => e = .returned (.int .i64 (scoreZ R s)) ∧ IsX w w' := by
  have HII := hide (fun V (hV : IsX w V) => c_l09Seat b R s V hR hs (Nat.lt_of_lt_of_le hbd hV.size) (keep hV hbd hbc))
  have HWV := hide (fun V (hV : IsX w V) hin => c_l09Worst b R s V hR hin (Nat.lt_of_lt_of_le hbd hV.size) (keep hV hbd hbc))
  have hwb := worstA_bd R s 8
  have hwb' : 0 ≤ worstZ R s ∧ worstZ R s < 360000 := hwb
  have HIN := hide (fun h => score_in (R := R) (s := s) h)
  have HOUT := hide (fun h => score_out (R := R) (s := s) h)
  generalize scoreZ R s = sz at *
  generalize worstZ R s = wz at *
  generalize hin : inSeat R s = inn at *
  obtain ⟨s0, s1, s2⟩ := s
  simp only [V3.val] at HII HWV ⊢
  clear hwb hbd hbc hs
  obtain ⟨W0, hW0⟩ : ∃ W, W = (w.alloc (.cells #[.int .i64 s0, .int .i64 s1, .int .i64 s2] 48)) := ⟨_, rfl⟩
  obtain ⟨BS, hBS⟩ : ∃ B, B = w.heap.size := ⟨_, rfl⟩
  have HBS := hide (show Blk W0 BS 48 #[.int .i64 s0, .int .i64 s1, .int .i64 s2] from by rw [hW0, hBS]; have h := (Blk.new w 48 #[.int .i64 s0, .int .i64 s1, .int .i64 s2]); simpa using h)
  have HX0 := hide (show IsX w W0 from by rw [hW0]; exact (IsX.refl w).alloc _)
  go_enter Tryd.func21, Tryd.ntmps21
  go_wp2_with fail
  (try simp only [World.size_alloc, Nat.add_assoc, Nat.reduceAdd])
  rw [← hW0]
  simp only [← hBS]
  clear hW0 hBS
  refine (HII.out _ HX0.out).mono ?_
  rintro e w3 ⟨rfl, hx⟩
  have HX3 := hide (HX0.out.trans hx)
  replace HBS := hide (HBS.out.x hx)
  clear hx
  have q0 := HBS.out.cell 0
  have q1 := HBS.out.cell 1
  have q2 := HBS.out.cell 2
  simp at q0 q1 q2
  have ql := HBS.out.lt
  cases inn
  · have HR := hide (HOUT.out rfl)
    go_wp2_with fail
    go_ret
    exact ⟨by rw [HR.out]; rfl, HX3.out⟩
  · have HR := hide (HIN.out rfl)
    have HV := hide (HWV.out _ HX3.out rfl)
    have hq : wz.tdiv 90 = wz / 90 := Int.tdiv_eq_ediv_of_nonneg (by omega)
    have hqb : 0 ≤ wz / 90 ∧ wz / 90 ≤ 4000 := by omega
    have HMX := hide (fun (V : World) => c_domMax 0 (1000 - wz / 90) V)
    generalize wz / 90 = qz at *
    clear HWV HIN HOUT HII
    go_wp2_with fail
    refine HV.out.mono ?_
    rintro e w4 ⟨rfl, hx⟩
    have HX4 := hide (HX3.out.trans hx)
    clear hx
    go_wp2_with fail
    refine (HMX.out _).mono ?_
    rintro e w5 ⟨rfl, rfl⟩
    go_wp2_with fail
    go_ret
    exact ⟨by rw [HR.out]; rfl, HX4.out⟩

end Go.Proofs.YtadmpefbpklibaaDoor
