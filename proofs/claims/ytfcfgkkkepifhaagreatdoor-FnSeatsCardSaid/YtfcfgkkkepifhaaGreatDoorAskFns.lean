/- The code of rings and a seat. Conditions: lists no longer than 2^40. -/
import Derived.Test.YtfcfgkkkepifhaaGreatDoorSeats
namespace Go.Proofs.YtfcfgkkkepifhaaGreatDoor
set_option linter.unusedVariables false
open Go.RowKit

def askR (xs : List RingD) (k : Int) : Int := if ringsB xs = true then (if inB k 0 (sumCount xs - 1) = true then 0 else 2) else 1
theorem askR_bad {xs : List RingD} {k : Int} (h : ringsB xs = false) : askR xs k = 1 := by simp [askR, h]
theorem askR_range {xs : List RingD} {k : Int} (h : ringsB xs = true) (h2 : inB k 0 (sumCount xs - 1) = false) : askR xs k = 2 := by simp [askR, h, h2]
theorem askR_ok {xs : List RingD} {k : Int} (h : ringsB xs = true) (h2 : inB k 0 (sumCount xs - 1) = true) : askR xs k = 0 := by simp [askR, h, h2]

set_option maxHeartbeats 800000 in
theorem c_l23Ask (A0 : Option Addr) (c0 : Nat) (xs0 : List RingD) (n1 : Int) (w : World) (hn0 : xs0.length ≤ 1099511627776) (hw0 : ∀ x ∈ xs0, x.wf) (hA0 : Rd RingD.cells 5 w A0 xs0) :
    Calls Tryz.prog 58 #[.slice A0 xs0.length c0, .int .i64 n1] w fun e w' => e = .returned (.int .i64 (askR xs0 n1)) ∧ IsX w w' := by
  cases hv : ringsB xs0
  · have HR := hide (askR_bad (k := n1) hv)
    go_enter Tryz.func58, Tryz.ntmps58
    go_wp2_with fail
    refine (cb (c_l23Ok A0 c0 xs0 w hn0 hw0 hA0) hv).mono ?_
    rintro e w1 ⟨rfl, hx⟩
    go_wp2_with fail
    go_ret
    exact ⟨by rw [HR.out]; rfl, hx⟩
  have HV := hide hv
  have hs0 := sumCount_nn hv
  have hs1 := (rings_len hv).2
  cases hr : inB n1 0 (sumCount xs0 - 1)
  · have HR := hide (askR_range hv hr)
    go_enter Tryz.func58, Tryz.ntmps58
    go_wp2_with fail
    refine (cb (c_l23Ok A0 c0 xs0 w hn0 hw0 hA0) hv).mono ?_
    rintro e w1 ⟨rfl, hx⟩
    go_wp2_with fail
    refine (c_l23All A0 c0 xs0 w1 hn0 (rings_cnt HV.out) (hA0.x hx)).mono ?_
    rintro e w2 ⟨rfl, hx2⟩
    go_wp2_with (go_at_call 87; refine (cb (c_in n1 0 (sumCount xs0 - 1) _) hr).mono ?_; rintro e w' ⟨rfl, rfl⟩)
    go_ret
    exact ⟨by rw [HR.out]; rfl, hx.trans hx2⟩
  have HR := hide (askR_ok hv hr)
  go_enter Tryz.func58, Tryz.ntmps58
  go_wp2_with fail
  refine (cb (c_l23Ok A0 c0 xs0 w hn0 hw0 hA0) hv).mono ?_
  rintro e w1 ⟨rfl, hx⟩
  go_wp2_with fail
  refine (c_l23All A0 c0 xs0 w1 hn0 (rings_cnt HV.out) (hA0.x hx)).mono ?_
  rintro e w2 ⟨rfl, hx2⟩
  go_wp2_with (go_at_call 87; refine (cb (c_in n1 0 (sumCount xs0 - 1) _) hr).mono ?_; rintro e w' ⟨rfl, rfl⟩)
  go_ret
  exact ⟨by rw [HR.out]; rfl, hx.trans hx2⟩

set_option maxHeartbeats 800000 in
theorem c_checkSeat (A0 : Option Addr) (c0 : Nat) (xs0 : List RingD) (n1 : Int) (w : World) (hn0 : xs0.length ≤ 1099511627776) (hw0 : ∀ x ∈ xs0, x.wf) (hA0 : Rd RingD.cells 5 w A0 xs0) :
    Calls Tryz.prog 32 #[.slice A0 xs0.length c0, .int .i64 n1] w fun e w' => e = .returned (.int .i64 (askR xs0 n1)) ∧ IsX w w' := by
  cases hv : ringsB xs0
  · have HR := hide (askR_bad (k := n1) hv)
    go_enter Tryz.func32, Tryz.ntmps32
    go_wp2_with fail
    refine (cb (c_ValidRings A0 c0 xs0 w hn0 hw0 hA0) hv).mono ?_
    rintro e w1 ⟨rfl, hx⟩
    go_wp2_with fail
    go_ret
    exact ⟨by rw [HR.out]; rfl, hx⟩
  have HV := hide hv
  have hs0 := sumCount_nn hv
  have hs1 := (rings_len hv).2
  cases hr : inB n1 0 (sumCount xs0 - 1)
  · have HR := hide (askR_range hv hr)
    go_enter Tryz.func32, Tryz.ntmps32
    go_wp2_with fail
    refine (cb (c_ValidRings A0 c0 xs0 w hn0 hw0 hA0) hv).mono ?_
    rintro e w1 ⟨rfl, hx⟩
    go_wp2_with fail
    refine (c_seatCount A0 c0 xs0 w1 hn0 (rings_cnt HV.out) (hA0.x hx)).mono ?_
    rintro e w2 ⟨rfl, hx2⟩
    go_wp2_with (go_at_call 63; refine (cb (c_within n1 0 (sumCount xs0 - 1) _) hr).mono ?_; rintro e w' ⟨rfl, rfl⟩)
    go_ret
    exact ⟨by rw [HR.out]; rfl, hx.trans hx2⟩
  have HR := hide (askR_ok hv hr)
  go_enter Tryz.func32, Tryz.ntmps32
  go_wp2_with fail
  refine (cb (c_ValidRings A0 c0 xs0 w hn0 hw0 hA0) hv).mono ?_
  rintro e w1 ⟨rfl, hx⟩
  go_wp2_with fail
  refine (c_seatCount A0 c0 xs0 w1 hn0 (rings_cnt HV.out) (hA0.x hx)).mono ?_
  rintro e w2 ⟨rfl, hx2⟩
  go_wp2_with (go_at_call 63; refine (cb (c_within n1 0 (sumCount xs0 - 1) _) hr).mono ?_; rintro e w' ⟨rfl, rfl⟩)
  go_ret
  exact ⟨by rw [HR.out]; rfl, hx.trans hx2⟩

end Go.Proofs.YtfcfgkkkepifhaaGreatDoor
