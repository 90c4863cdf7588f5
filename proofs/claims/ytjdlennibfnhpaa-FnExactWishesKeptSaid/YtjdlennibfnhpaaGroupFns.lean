/- Seats needed by groups: what the reference and the program compute. Conditions: those of Groups. -/
import Derived.Test.YtjdlennibfnhpaaGroups
import Derived.Test.YtjdlennibfnhpaaLInt64
namespace Go.Proofs.Ytjdlennibfnhpaa
set_option linter.unusedVariables false
open Go.RowKit

theorem groups_persons {xs : List GroupD} (h : groupsB xs = true) : ∀ x ∈ xs, 1 ≤ x.Persons ∧ x.Persons ≤ 40 ∧ -1 ≤ x.Wish ∧ x.Wish ≤ 9 := by
  intro x hx
  simp only [groupsB, Bool.and_eq_true] at h
  have h1 := allGood_ok h.2 x hx
  simp only [GroupD.okB, Bool.and_eq_true] at h1
  have h2 := inB_true.1 h1.1.2
  have h3 := inB_true.1 h1.2
  omega
theorem groups_len {xs : List GroupD} (h : groupsB xs = true) : xs.length ≤ 12 := by
  simp only [groupsB, Bool.and_eq_true, decide_eq_true_eq] at h
  exact h.1
theorem groups_cap {xs : List GroupD} (h : groupsB xs = true) : ∀ x ∈ xs, 0 ≤ x.Persons ∧ x.Persons ≤ 1048576 := fun x hx => by have := groups_persons h x hx; omega
def needed1 (xs : List GroupD) : Int := if groupsB xs then sumPersons xs else 0
def needed2 (xs : List GroupD) : Int := if groupsB xs then 0 else 1

set_option maxHeartbeats 400000 in
theorem s_SeatsNeeded (A0 : Option Addr) (c0 : Nat) (xs0 : List GroupD) (w : World) (hn0 : xs0.length ≤ 1099511627776) (hw0 : ∀ x ∈ xs0, x.wf) (hA0 : Rd GroupD.cells 3 w A0 xs0) :
    Calls Try.prog 38 #[.slice A0 xs0.length c0] w fun e w' => e = .returned (.tuple #[.int .i64 (needed1 xs0), .int .i64 (needed2 xs0)]) ∧ IsX w w' := by
  cases hv : groupsB xs0
  · have H1 := hide (show needed1 xs0 = 0 by simp [needed1, hv])
    have H2 := hide (show needed2 xs0 = 1 by simp [needed2, hv])
    go_enter Try.func38, Try.ntmps38
    go_wp2_with fail
    refine (c_l24Ok A0 c0 xs0 w hn0 hw0 hA0).mono ?_
    rintro e w1 ⟨rfl, hx⟩
    go_wp2_with fail
    go_ret2
    exact ⟨by rw [H1.out, H2.out]; rfl, hx⟩
  · have H1 := hide (show needed1 xs0 = sumPersons xs0 by simp [needed1, hv])
    have H2 := hide (show needed2 xs0 = 0 by simp [needed2, hv])
    have HC := hide (groups_cap hv)
    go_enter Try.func38, Try.ntmps38
    go_wp2_with fail
    refine (c_l24Ok A0 c0 xs0 w hn0 hw0 hA0).mono ?_
    rintro e w1 ⟨rfl, hx⟩
    go_wp2_with fail
    refine (c_l24Sum A0 c0 0 xs0 w1 hn0 (Nat.zero_le _) HC.out (hA0.x hx)).mono ?_
    rintro e w2 ⟨rfl, hx2⟩
    go_wp2_with fail
    go_ret2
    exact ⟨by rw [H1.out, H2.out]; rfl, hx.trans hx2⟩

set_option maxHeartbeats 400000 in
theorem i_SeatsNeeded (A0 : Option Addr) (c0 : Nat) (xs0 : List GroupD) (w : World) (hn0 : xs0.length ≤ 1099511627776) (hw0 : ∀ x ∈ xs0, x.wf) (hA0 : Rd GroupD.cells 3 w A0 xs0) :
    Calls Try.prog 39 #[.slice A0 xs0.length c0] w fun e w' => e = .returned (.tuple #[.int .i64 (needed1 xs0), .int .i64 (needed2 xs0)]) ∧ IsX w w' := by
  cases hv : groupsB xs0
  · have H1 := hide (show needed1 xs0 = 0 by simp [needed1, hv])
    have H2 := hide (show needed2 xs0 = 1 by simp [needed2, hv])
    go_enter Try.func39, Try.ntmps39
    go_wp2_with fail
    refine (c_ValidGroups A0 c0 xs0 w hn0 hw0 hA0).mono ?_
    rintro e w1 ⟨rfl, hx⟩
    go_wp2_with fail
    go_ret2
    exact ⟨by rw [H1.out, H2.out]; rfl, hx⟩
  · have H1 := hide (show needed1 xs0 = sumPersons xs0 by simp [needed1, hv])
    have H2 := hide (show needed2 xs0 = 0 by simp [needed2, hv])
    have HC := hide (groups_cap hv)
    go_enter Try.func39, Try.ntmps39
    go_wp2_with fail
    refine (c_ValidGroups A0 c0 xs0 w hn0 hw0 hA0).mono ?_
    rintro e w1 ⟨rfl, hx⟩
    go_wp2_with fail
    refine (c_personsOf A0 c0 xs0 w1 hn0 HC.out (hA0.x hx)).mono ?_
    rintro e w2 ⟨rfl, hx2⟩
    go_wp2_with fail
    go_ret2
    exact ⟨by rw [H1.out, H2.out]; rfl, hx.trans hx2⟩

end Go.Proofs.Ytjdlennibfnhpaa
