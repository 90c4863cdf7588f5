/- The first free seats side by side: FirstBlock of the reference. Conditions: lists no longer than 2^40. -/
import Derived.Test.YtfcfgkkkepifhaaGreatDoorFirstLaw
namespace Go.Proofs.YtfcfgkkkepifhaaGreatDoor
set_option linter.unusedVariables false
open Go.RowKit

def blockZ (xs : List RingD) (ps : List Int) (n : Nat) (k : Int) : List Int := if blockB xs ps n k = true then blockL k n else []
section
variable {xs : List RingD} {ps : List Int} {n : Nat} {k : Int}
theorem blockZ_yes (h : blockB xs ps n k = true) : blockZ xs ps n k = blockL k n := by simp [blockZ, h]
theorem blockZ_no (h : blockB xs ps n k = false) : blockZ xs ps n k = [] := by simp [blockZ, h]
theorem block_cnt (h : cntAt xs k < seatN xs k + n) : blockB xs ps n k = false := by
  rw [blockB, decide_eq_false (by omega), Bool.false_and]
theorem block_has {j : Nat} (hj : j < n) (h : hasB ps (k + (j : Int)) = true) : blockB xs ps n k = false := by
  rw [blockB, Bool.and_eq_false_iff]
  right
  rw [List.all_eq_false]
  exact ⟨j, List.mem_range.2 hj, by simp [h]⟩
theorem block_yes (h : seatN xs k + n ≤ cntAt xs k) (h2 : ∀ j : Nat, j < n → hasB ps (k + (j : Int)) = false) : blockB xs ps n k = true := by
  rw [blockB, decide_eq_true h, Bool.true_and, List.all_eq_true]
  intro j hj
  simp [h2 j (List.mem_range.1 hj)]
theorem many_bad {n : Int} (h : bookedB xs ps = false) : manyC xs ps n = 1 := by simp [manyC, h]
theorem many_range {n : Int} (h : bookedB xs ps = true) (h2 : inB n 1 60 = false) : manyC xs ps n = 2 := by simp [manyC, h, h2]
theorem many_ok {n : Int} (h : bookedB xs ps = true) (h2 : inB n 1 60 = true) : manyC xs ps n = 0 := by simp [manyC, h, h2]
theorem many_zero {n : Int} (h : manyC xs ps n = 0) : bookedB xs ps = true ∧ inB n 1 60 = true := by
  cases h1 : bookedB xs ps
  · rw [many_bad h1] at h; omega
  · cases h2 : inB n 1 60
    · rw [many_range h1 h2] at h; omega
    · exact ⟨rfl, rfl⟩
theorem first_bad {n : Int} (h : manyC xs ps n ≠ 0) : firstZ xs ps n = [] ∧ firstC xs ps n = manyC xs ps n := by simp [firstZ, firstC, h]
theorem first_some {m q : Nat} (hz : manyC xs ps (n : Int) = 0) (hm : sumCount xs = (m : Int)) (h : firstB (blockB xs ps n) m = some q) : firstZ xs ps n = blockL q n ∧ firstC xs ps n = 0 := by
  have h' : firstB (blockB xs ps ((n : Int)).toNat) (sumCount xs).toNat = some q := by rw [hm]; simpa using h
  simp only [firstZ, firstC, hz, h']
  simp
theorem first_nil {m : Nat} (hz : manyC xs ps (n : Int) = 0) (hm : sumCount xs = (m : Int)) (h : firstB (blockB xs ps n) m = none) : firstZ xs ps n = [] ∧ firstC xs ps n = 3 := by
  have h' : firstB (blockB xs ps ((n : Int)).toNat) (sumCount xs).toNat = none := by rw [hm]; simpa using h
  simp only [firstZ, firstC, hz, h']
  simp
end
theorem step_hn {P : Nat → Bool} {q : Nat} (h : ∀ i : Nat, i < q → P i = false) (hq : P q = false) : ∀ i : Nat, i < q + 1 → P i = false := fun i hi => by
  by_cases e : i = q
  · subst e; exact hq
  · exact h i (by omega)

set_option maxHeartbeats 800000 in
theorem c_checkBlock (A0 : Option Addr) (c0 : Nat) (xs0 : List RingD) (A1 : Option Addr) (c1 : Nat) (xs1 : List Int) (n2 : Int) (w : World) (hn0 : xs0.length ≤ 1099511627776) (hw0 : ∀ x ∈ xs0, x.wf) (hA0 : Rd RingD.cells 5 w A0 xs0) (hn1 : xs1.length ≤ 1099511627776) (hw1 : ∀ x ∈ xs1, intWf x) (hA1 : Rd intC 1 w A1 xs1) (hb2 : intWf n2) : Calls Tryz.prog 47 #[.slice A0 xs0.length c0, .slice A1 xs1.length c1, .int .i64 n2] w fun e w' => e = .returned (.int .i64 (manyC xs0 xs1 n2)) ∧ IsX w w' := by
  cases hv : ringsB xs0
  · have HR := hide (many_bad (xs := xs0) (ps := xs1) (n := n2) (by simp [bookedB, hv]))
    go_enter Tryz.func47, Tryz.ntmps47
    go_wp2_with fail
    refine (cb (c_ValidRings A0 c0 xs0 w hn0 hw0 hA0) hv).mono ?_
    rintro e w1 ⟨rfl, hx⟩
    go_wp2_with fail
    go_ret
    exact ⟨by rw [HR.out]; rfl, hx⟩
  have HV := hide hv
  have hs0 := sumCount_nn hv
  have hs1 := (rings_len hv).2
  cases hr : risesB xs1 0 (sumCount xs0 - 1)
  · have HR := hide (many_bad (xs := xs0) (ps := xs1) (n := n2) (by simp [bookedB, hr]))
    go_enter Tryz.func47, Tryz.ntmps47
    go_wp2_with fail
    refine (cb (c_ValidRings A0 c0 xs0 w hn0 hw0 hA0) hv).mono ?_
    rintro e w1 ⟨rfl, hx⟩
    go_wp2_with fail
    refine (c_seatCount A0 c0 xs0 w1 hn0 (rings_cnt HV.out) (hA0.x hx)).mono ?_
    rintro e w2 ⟨rfl, hx2⟩
    go_wp2_with fail
    refine (cb (c_areIndices A1 c1 xs1 (sumCount xs0) w2 hn1 hs0 (by omega) (hA1.x (hx.trans hx2))) hr).mono ?_
    rintro e w3 ⟨rfl, hx3⟩
    replace hx := (hx.trans hx2).trans hx3
    clear hx2 hx3
    go_wp2_with fail
    go_ret
    exact ⟨by rw [HR.out]; rfl, hx⟩
  have hbk : bookedB xs0 xs1 = true := by simp [bookedB, hv, hr]
  cases hin : inB n2 1 60
  · have HR := hide (many_range hbk hin)
    go_enter Tryz.func47, Tryz.ntmps47
    go_wp2_with fail
    refine (cb (c_ValidRings A0 c0 xs0 w hn0 hw0 hA0) hv).mono ?_
    rintro e w1 ⟨rfl, hx⟩
    go_wp2_with fail
    refine (c_seatCount A0 c0 xs0 w1 hn0 (rings_cnt HV.out) (hA0.x hx)).mono ?_
    rintro e w2 ⟨rfl, hx2⟩
    go_wp2_with fail
    refine (cb (c_areIndices A1 c1 xs1 (sumCount xs0) w2 hn1 hs0 (by omega) (hA1.x (hx.trans hx2))) hr).mono ?_
    rintro e w3 ⟨rfl, hx3⟩
    replace hx := (hx.trans hx2).trans hx3
    clear hx2 hx3
    go_wp2_with (go_at_call 63; refine (cb (c_within n2 1 60 _) hin).mono ?_; rintro e w' ⟨rfl, rfl⟩)
    go_ret
    exact ⟨by rw [HR.out]; rfl, hx⟩
  · have HR := hide (many_ok hbk hin)
    go_enter Tryz.func47, Tryz.ntmps47
    go_wp2_with fail
    refine (cb (c_ValidRings A0 c0 xs0 w hn0 hw0 hA0) hv).mono ?_
    rintro e w1 ⟨rfl, hx⟩
    go_wp2_with fail
    refine (c_seatCount A0 c0 xs0 w1 hn0 (rings_cnt HV.out) (hA0.x hx)).mono ?_
    rintro e w2 ⟨rfl, hx2⟩
    go_wp2_with fail
    refine (cb (c_areIndices A1 c1 xs1 (sumCount xs0) w2 hn1 hs0 (by omega) (hA1.x (hx.trans hx2))) hr).mono ?_
    rintro e w3 ⟨rfl, hx3⟩
    replace hx := (hx.trans hx2).trans hx3
    clear hx2 hx3
    go_wp2_with (go_at_call 63; refine (cb (c_within n2 1 60 _) hin).mono ?_; rintro e w' ⟨rfl, rfl⟩)
    go_ret
    exact ⟨by rw [HR.out]; rfl, hx⟩

end Go.Proofs.YtfcfgkkkepifhaaGreatDoor
