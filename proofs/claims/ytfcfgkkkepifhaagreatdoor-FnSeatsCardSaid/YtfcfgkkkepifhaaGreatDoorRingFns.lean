/- The number of seats and what else is read off rings: what the reference and the program compute. Conditions: those of Rings. -/
import Derived.Test.YtfcfgkkkepifhaaGreatDoorRings
import Derived.Test.YtfcfgkkkepifhaaGreatDoorLInt64
namespace Go.Proofs.YtfcfgkkkepifhaaGreatDoor
set_option linter.unusedVariables false
open Go.RowKit

theorem rings_count {xs : List RingD} (h : ringsB xs = true) : ∀ x ∈ xs, 0 ≤ x.Count ∧ x.Count ≤ 1048576 := by
  intro x hx
  simp only [ringsB, Bool.and_eq_true] at h
  have h1 := allGood_ok h.1.2 x hx
  simp only [RingD.okB, Bool.and_eq_true] at h1
  have h2 := inB_true.1 h1.1.1.1.1.2
  omega
def seatCount1 (xs : List RingD) : Int := if ringsB xs then sumCount xs else 0
def seatCount2 (xs : List RingD) : Int := if ringsB xs then 0 else 1

set_option maxHeartbeats 400000 in
theorem s_SeatCount (A0 : Option Addr) (c0 : Nat) (xs0 : List RingD) (w : World) (hn0 : xs0.length ≤ 1099511627776) (hw0 : ∀ x ∈ xs0, x.wf) (hA0 : Rd RingD.cells 5 w A0 xs0) :
    Calls Tryz.prog 18 #[.slice A0 xs0.length c0] w fun e w' => e = .returned (.tuple #[.int .i64 (seatCount1 xs0), .int .i64 (seatCount2 xs0)]) ∧ IsX w w' := by
  cases hv : ringsB xs0
  · have H1 := hide (show seatCount1 xs0 = 0 by simp [seatCount1, hv])
    have H2 := hide (show seatCount2 xs0 = 1 by simp [seatCount2, hv])
    go_enter Tryz.func18, Tryz.ntmps18
    go_wp2_with fail
    refine (c_l23Ok A0 c0 xs0 w hn0 hw0 hA0).mono ?_
    rintro e w1 ⟨rfl, hx⟩
    go_wp2_with fail
    go_ret2
    exact ⟨by rw [H1.out, H2.out]; rfl, hx⟩
  · have H1 := hide (show seatCount1 xs0 = sumCount xs0 by simp [seatCount1, hv])
    have H2 := hide (show seatCount2 xs0 = 0 by simp [seatCount2, hv])
    have HC := hide (rings_count hv)
    go_enter Tryz.func18, Tryz.ntmps18
    go_wp2_with fail
    refine (c_l23Ok A0 c0 xs0 w hn0 hw0 hA0).mono ?_
    rintro e w1 ⟨rfl, hx⟩
    go_wp2_with fail
    refine (c_l23All A0 c0 xs0 w1 hn0 HC.out (hA0.x hx)).mono ?_
    rintro e w2 ⟨rfl, hx2⟩
    go_wp2_with fail
    go_ret2
    exact ⟨by rw [H1.out, H2.out]; rfl, hx.trans hx2⟩

set_option maxHeartbeats 400000 in
theorem i_SeatCount (A0 : Option Addr) (c0 : Nat) (xs0 : List RingD) (w : World) (hn0 : xs0.length ≤ 1099511627776) (hw0 : ∀ x ∈ xs0, x.wf) (hA0 : Rd RingD.cells 5 w A0 xs0) :
    Calls Tryz.prog 7 #[.slice A0 xs0.length c0] w fun e w' => e = .returned (.tuple #[.int .i64 (seatCount1 xs0), .int .i64 (seatCount2 xs0)]) ∧ IsX w w' := by
  cases hv : ringsB xs0
  · have H1 := hide (show seatCount1 xs0 = 0 by simp [seatCount1, hv])
    have H2 := hide (show seatCount2 xs0 = 1 by simp [seatCount2, hv])
    go_enter Tryz.func7, Tryz.ntmps7
    go_wp2_with fail
    refine (c_ValidRings A0 c0 xs0 w hn0 hw0 hA0).mono ?_
    rintro e w1 ⟨rfl, hx⟩
    go_wp2_with fail
    go_ret2
    exact ⟨by rw [H1.out, H2.out]; rfl, hx⟩
  · have H1 := hide (show seatCount1 xs0 = sumCount xs0 by simp [seatCount1, hv])
    have H2 := hide (show seatCount2 xs0 = 0 by simp [seatCount2, hv])
    have HC := hide (rings_count hv)
    go_enter Tryz.func7, Tryz.ntmps7
    go_wp2_with fail
    refine (c_ValidRings A0 c0 xs0 w hn0 hw0 hA0).mono ?_
    rintro e w1 ⟨rfl, hx⟩
    go_wp2_with fail
    refine (c_seatCount A0 c0 xs0 w1 hn0 HC.out (hA0.x hx)).mono ?_
    rintro e w2 ⟨rfl, hx2⟩
    go_wp2_with fail
    go_ret2
    exact ⟨by rw [H1.out, H2.out]; rfl, hx.trans hx2⟩

end Go.Proofs.YtfcfgkkkepifhaaGreatDoor
