/- The seats that are left: SeatsLeft of the reference and of the program. Conditions: lists no longer than 2^40. -/
import Derived.Test.YteeafdbfimdddaaSeating
import Derived.Test.YteeafdbfimdddaaMarks
namespace Go.Proofs.Yteeafdbfimdddaa
set_option linter.unusedVariables false
open Go.RowKit

def askC (xs : List GroupD) (rs ps : List Int) : Int := if groupsB xs && rowsB rs then (if leftB xs rs ps then 0 else 2) else 1
def leftZ (xs : List GroupD) (rs ps : List Int) : List Int := if groupsB xs && rowsB rs && leftB xs rs ps then freeTo xs rs ps ps.length else []
theorem leftZ_len (xs : List GroupD) (rs ps : List Int) (h : rs.length ≤ 1099511627776) : (leftZ xs rs ps).length ≤ 1099511627776 := by
  unfold leftZ
  split
  · rw [free_len]; exact h
  · simp

set_option maxHeartbeats 1600000 in
theorem c_l24Ask (A0 : Option Addr) (c0 : Nat) (xs0 : List GroupD) (A1 : Option Addr) (c1 : Nat) (xs1 : List Int) (A2 : Option Addr) (c2 : Nat) (xs2 : List Int) (w : World) (hn0 : xs0.length ≤ 1099511627776) (hw0 : ∀ x ∈ xs0, x.wf) (hA0 : Rd GroupD.cells 3 w A0 xs0) (hn1 : xs1.length ≤ 1099511627776) (hw1 : ∀ x ∈ xs1, intWf x) (hA1 : Rd intC 1 w A1 xs1) (hn2 : xs2.length ≤ 1099511627776) (hw2 : ∀ x ∈ xs2, intWf x) (hA2 : Rd intC 1 w A2 xs2) :
    Calls Try.prog 107 #[.slice A0 xs0.length c0, .slice A1 xs1.length c1, .slice A2 xs2.length c2] w (fun e w' => e = .returned (.int .i64 (askC xs0 xs1 xs2)) ∧ IsX w w') := by
  cases hv : groupsB xs0
  · have HR := hide (show askC xs0 xs1 xs2 = 1 by simp [askC, hv])
    have HZ := hide (show leftZ xs0 xs1 xs2 = [] by simp [leftZ, hv])
    go_enter Try.func107, Try.ntmps107
    go_wp2_with fail
    refine (cb (c_l24Ok A0 c0 xs0 w hn0 hw0 hA0) hv).mono ?_
    rintro e w1 ⟨rfl, hx⟩
    go_wp2_with fail
    go_ret
    exact ⟨by rw [HR.out]; rfl, hx⟩
  have HV := hide hv
  cases hr : rowsB xs1
  · have HR := hide (show askC xs0 xs1 xs2 = 1 by simp [askC, hr])
    have HZ := hide (show leftZ xs0 xs1 xs2 = [] by simp [leftZ, hr])
    go_enter Try.func107, Try.ntmps107
    go_wp2_with fail
    refine (cb (c_l24Ok A0 c0 xs0 w hn0 hw0 hA0) hv).mono ?_
    rintro e w1 ⟨rfl, hx⟩
    go_wp2_with fail
    refine (cb (c_l24Rows A1 c1 xs1 w1 hn1 hw1 (hA1.x hx)) hr).mono ?_
    rintro e w2 ⟨rfl, hx2⟩
    go_wp2_with fail
    go_ret
    exact ⟨by rw [HR.out]; rfl, (hx.trans hx2)⟩
  have HRR := hide hr
  · skip
    go_enter Try.func107, Try.ntmps107
    go_wp2_with fail
    refine (cb (c_l24Ok A0 c0 xs0 w hn0 hw0 hA0) hv).mono ?_
    rintro e w1 ⟨rfl, hx⟩
    go_wp2_with fail
    refine (cb (c_l24Rows A1 c1 xs1 w1 hn1 hw1 (hA1.x hx)) hr).mono ?_
    rintro e w2 ⟨rfl, hx2⟩
    go_wp2_with fail
    refine (c_l24Free A0 c0 xs0 A1 c1 xs1 A2 c2 xs2 w2 HV.out HRR.out hn2 (hA0.x (hx.trans hx2)) (hA1.x (hx.trans hx2)) (hA2.x (hx.trans hx2))).mono ?_
    rintro e w3 hp
    rcases hp.cases with ⟨hb, rfl, hx3⟩ | ⟨hb, A, c, rfl, hO, hx3⟩
    · have HR := hide (show askC xs0 xs1 xs2 = 2 by simp [askC, hv, hr, hb])
      have HZ := hide (show leftZ xs0 xs1 xs2 = [] by simp [leftZ, hb])
      clear hb hp
      go_wp2_with fail
      go_ret
      exact ⟨by rw [HR.out]; rfl, ((hx.trans hx2).trans hx3)⟩
    · have HR := hide (show askC xs0 xs1 xs2 = 0 by simp [askC, hv, hr, hb])
      have HZ := hide (show leftZ xs0 xs1 xs2 = freeTo xs0 xs1 xs2 xs2.length by simp [leftZ, hv, hr, hb])
      have HO := hide hO
      clear hb hp hO
      go_wp2_with fail
      go_ret
      exact ⟨by rw [HR.out]; rfl, ((hx.trans hx2).trans hx3)⟩

set_option maxHeartbeats 1600000 in
theorem i_SeatsLeft (A0 : Option Addr) (c0 : Nat) (xs0 : List GroupD) (A1 : Option Addr) (c1 : Nat) (xs1 : List Int) (A2 : Option Addr) (c2 : Nat) (xs2 : List Int) (w : World) (hn0 : xs0.length ≤ 1099511627776) (hw0 : ∀ x ∈ xs0, x.wf) (hA0 : Rd GroupD.cells 3 w A0 xs0) (hn1 : xs1.length ≤ 1099511627776) (hw1 : ∀ x ∈ xs1, intWf x) (hA1 : Rd intC 1 w A1 xs1) (hn2 : xs2.length ≤ 1099511627776) (hw2 : ∀ x ∈ xs2, intWf x) (hA2 : Rd intC 1 w A2 xs2) :
    Calls Try.prog 54 #[.slice A0 xs0.length c0, .slice A1 xs1.length c1, .slice A2 xs2.length c2] w (SlPost intC 1 2 w (leftZ xs0 xs1 xs2) (askC xs0 xs1 xs2)) := by
  cases hv : groupsB xs0
  · have HR := hide (show askC xs0 xs1 xs2 = 1 by simp [askC, hv])
    have HZ := hide (show leftZ xs0 xs1 xs2 = [] by simp [leftZ, hv])
    go_enter Try.func54, Try.ntmps54
    go_wp2_with fail
    refine (cb (c_ValidGroups A0 c0 xs0 w hn0 hw0 hA0) hv).mono ?_
    rintro e w1 ⟨rfl, hx⟩
    go_wp2_with fail
    go_ret2
    exact SlPost.none HZ.out (by rw [HR.out]; rfl) hx
  have HV := hide hv
  cases hr : rowsB xs1
  · have HR := hide (show askC xs0 xs1 xs2 = 1 by simp [askC, hr])
    have HZ := hide (show leftZ xs0 xs1 xs2 = [] by simp [leftZ, hr])
    go_enter Try.func54, Try.ntmps54
    go_wp2_with fail
    refine (cb (c_ValidGroups A0 c0 xs0 w hn0 hw0 hA0) hv).mono ?_
    rintro e w1 ⟨rfl, hx⟩
    go_wp2_with fail
    refine (cb (c_ValidRows A1 c1 xs1 w1 hn1 hw1 (hA1.x hx)) hr).mono ?_
    rintro e w2 ⟨rfl, hx2⟩
    go_wp2_with fail
    go_ret2
    exact SlPost.none HZ.out (by rw [HR.out]; rfl) (hx.trans hx2)
  have HRR := hide hr
  · skip
    go_enter Try.func54, Try.ntmps54
    go_wp2_with fail
    refine (cb (c_ValidGroups A0 c0 xs0 w hn0 hw0 hA0) hv).mono ?_
    rintro e w1 ⟨rfl, hx⟩
    go_wp2_with fail
    refine (cb (c_ValidRows A1 c1 xs1 w1 hn1 hw1 (hA1.x hx)) hr).mono ?_
    rintro e w2 ⟨rfl, hx2⟩
    go_wp2_with fail
    refine (c_seatsLeft A0 c0 xs0 A1 c1 xs1 A2 c2 xs2 w2 HV.out HRR.out hn2 (hA0.x (hx.trans hx2)) (hA1.x (hx.trans hx2)) (hA2.x (hx.trans hx2))).mono ?_
    rintro e w3 hp
    rcases hp.cases with ⟨hb, rfl, hx3⟩ | ⟨hb, A, c, rfl, hO, hx3⟩
    · have HR := hide (show askC xs0 xs1 xs2 = 2 by simp [askC, hv, hr, hb])
      have HZ := hide (show leftZ xs0 xs1 xs2 = [] by simp [leftZ, hb])
      clear hb hp
      go_wp2_with fail
      go_ret2
      exact SlPost.none HZ.out (by rw [HR.out]; rfl) ((hx.trans hx2).trans hx3)
    · have HR := hide (show askC xs0 xs1 xs2 = 0 by simp [askC, hv, hr, hb])
      have HZ := hide (show leftZ xs0 xs1 xs2 = freeTo xs0 xs1 xs2 xs2.length by simp [leftZ, hv, hr, hb])
      have HO := hide hO
      clear hb hp hO
      go_wp2_with fail
      go_ret2
      refine ⟨A, c, by rw [HR.out, HZ.out, free_len]; rfl, ?_, (hx.trans hx2).trans hx3⟩
      rw [HZ.out, free_len]
      exact HO.out.mono (hx.trans hx2).size

set_option maxHeartbeats 1600000 in
theorem s_SeatsLeft (A0 : Option Addr) (c0 : Nat) (xs0 : List GroupD) (A1 : Option Addr) (c1 : Nat) (xs1 : List Int) (A2 : Option Addr) (c2 : Nat) (xs2 : List Int) (w : World) (hn0 : xs0.length ≤ 1099511627776) (hw0 : ∀ x ∈ xs0, x.wf) (hA0 : Rd GroupD.cells 3 w A0 xs0) (hn1 : xs1.length ≤ 1099511627776) (hw1 : ∀ x ∈ xs1, intWf x) (hA1 : Rd intC 1 w A1 xs1) (hn2 : xs2.length ≤ 1099511627776) (hw2 : ∀ x ∈ xs2, intWf x) (hA2 : Rd intC 1 w A2 xs2) :
    Calls Try.prog 53 #[.slice A0 xs0.length c0, .slice A1 xs1.length c1, .slice A2 xs2.length c2] w (SlPost intC 1 2 w (leftZ xs0 xs1 xs2) (askC xs0 xs1 xs2)) := by
  have hask := c_l24Ask A0 c0 xs0 A1 c1 xs1 A2 c2 xs2 w hn0 hw0 hA0 hn1 hw1 hA1 hn2 hw2 hA2
  cases hall : (groupsB xs0 && rowsB xs1 && leftB xs0 xs1 xs2)
  · have HZ := hide (show leftZ xs0 xs1 xs2 = [] by simp [leftZ, hall])
    have hne : askC xs0 xs1 xs2 = 1 ∨ askC xs0 xs1 xs2 = 2 := by
      cases h1 : (groupsB xs0 && rowsB xs1)
      · exact .inl (by simp [askC, h1])
      · cases h2 : leftB xs0 xs1 xs2
        · exact .inr (by simp [askC, h1, h2])
        · simp [h1, h2] at hall
    have HR := hide (rfl : askC xs0 xs1 xs2 = askC xs0 xs1 xs2)
    generalize hk : askC xs0 xs1 xs2 = code at hask hne HR ⊢
    clear hk HR hall
    go_enter Try.func53, Try.ntmps53
    go_wp2_with fail
    refine hask.mono ?_
    rintro e w1 ⟨rfl, hx⟩
    go_wp2_with fail
    go_ret2
    exact SlPost.none HZ.out rfl hx
  · simp only [Bool.and_eq_true] at hall
    obtain ⟨⟨hv, hr⟩, hb⟩ := hall
    have HR := hide (show askC xs0 xs1 xs2 = 0 by simp [askC, hv, hr, hb])
    have HZ := hide (show leftZ xs0 xs1 xs2 = freeTo xs0 xs1 xs2 xs2.length by simp [leftZ, hv, hr, hb])
    rw [HR.out] at hask
    have hfree := fun (w1 : World) (hx : IsX w w1) => c_l24Free A0 c0 xs0 A1 c1 xs1 A2 c2 xs2 w1 hv hr hn2 (hA0.x hx) (hA1.x hx) (hA2.x hx)
    have HB := hide hb
    clear hv hr hb
    go_enter Try.func53, Try.ntmps53
    go_wp2_with fail
    refine hask.mono ?_
    rintro e w1 ⟨rfl, hx⟩
    go_wp2_with fail
    refine (hfree w1 hx).mono ?_
    rintro e w2 hp
    rcases hp.cases with ⟨hb, _⟩ | ⟨_, A, c, rfl, hO, hx2⟩
    · rw [HB.out] at hb; cases hb
    have HO := hide hO
    clear hp hO
    go_wp2_with fail
    go_ret2
    refine ⟨A, c, by rw [HR.out, HZ.out, free_len]; rfl, ?_, hx.trans hx2⟩
    rw [HZ.out, free_len]
    exact HO.out.mono hx.size

end Go.Proofs.Yteeafdbfimdddaa
