/- The first free seats side by side: FirstBlock of the program. Conditions: lists no longer than 2^40. -/
import Derived.Test.YtfcfgkkkepifhaaGreatDoorBlocksAll
namespace Go.Proofs.YtfcfgkkkepifhaaGreatDoor
set_option linter.unusedVariables false
open Go.RowKit

theorem firstB_head (p : Int → Bool) : ∀ m : Nat, firstB p m = (startsB p m).head?
  | 0 => rfl
  | m + 1 => by
    have ih := firstB_head p m
    simp only [firstB, ih]
    cases hp : p (m : Int)
    · rw [startsB_no hp]
      cases (startsB p m).head? <;> simp
    · rw [startsB_yes hp]
      cases h : startsB p m <;> simp
set_option maxHeartbeats 3200000 in
theorem i_FirstBlock (A0 : Option Addr) (c0 : Nat) (xs0 : List RingD) (A1 : Option Addr) (c1 : Nat) (xs1 : List Int) (n2 : Int) (w : World) (hn0 : xs0.length ≤ 1099511627776) (hw0 : ∀ x ∈ xs0, x.wf) (hA0 : Rd RingD.cells 5 w A0 xs0) (hn1 : xs1.length ≤ 1099511627776) (hw1 : ∀ x ∈ xs1, intWf x) (hA1 : Rd intC 1 w A1 xs1) (hb2 : intWf n2) :
    Calls Tryz.prog 21 #[.slice A0 xs0.length c0, .slice A1 xs1.length c1, .int .i64 n2] w (SlPost intC 1 2 w (firstZ xs0 xs1 n2) (firstC xs0 xs1 n2)) := by
  by_cases hz : manyC xs0 xs1 n2 = 0
  case neg =>
    have HZ := hide (first_bad hz)
    obtain ⟨mc, hmc⟩ : ∃ mc, mc = manyC xs0 xs1 n2 := ⟨_, rfl⟩
    have HMC := hide hmc
    rw [← hmc] at hz
    have hzb : (mc != 0) = true := by rw [bne_iff_ne]; exact hz
    go_enter Tryz.func21, Tryz.ntmps21
    go_wp2_with fail
    refine (c_checkBlock A0 c0 xs0 A1 c1 xs1 n2 w hn0 hw0 hA0 hn1 hw1 hA1 hb2).mono ?_
    rintro e w1 ⟨rfl, hx⟩
    rw [← HMC.out]
    clear hmc
    go_wp2_with fail
    go_ret2
    exact SlPost.none HZ.out.1 (by rw [HZ.out.2, ← HMC.out]; rfl) hx
  obtain ⟨hbk, hin⟩ := many_zero hz
  have hin' := inB_true.1 hin
  obtain ⟨i1, i2⟩ := hin'
  obtain ⟨k1, rfl⟩ : ∃ k1 : Nat, n2 = (k1 : Int) + 1 := ⟨(n2 - 1).toNat, by omega⟩
  simp only [bookedB, Bool.and_eq_true] at hbk
  have HV := hide hbk.1
  have HR := hide hbk.2
  obtain ⟨m, hm⟩ := Int.eq_ofNat_of_zero_le (sumCount_nn hbk.1)
  have HM := hide hm
  have HZ0 := hide hz
  clear hbk hin hm hz
  go_enter Tryz.func21, Tryz.ntmps21
  go_wp2_with fail
  refine (c_checkBlock A0 c0 xs0 A1 c1 xs1 _ w hn0 hw0 hA0 hn1 hw1 hA1 hb2).mono ?_
  rintro e w1 ⟨rfl, hx⟩
  rw [HZ0.out]
  go_wp2_with fail
  refine (c_blocksOf A0 c0 xs0 A1 c1 xs1 k1 m w1 HV.out HR.out HM.out (by omega) hn0 hn1 (hA0.x hx) (hA1.x hx)).mono ?_
  rintro e w2 ⟨A, c, rfl, hx2, hba⟩
  have HX := hide (hx.trans hx2)
  have hsz := hx.size
  have hhd := firstB_head (blockB xs0 xs1 (k1 + 1)) m
  generalize startsB (blockB xs0 xs1 (k1 + 1)) m = ks at hba hhd ⊢
  cases ks with
  | nil =>
    have HFS : Hid (firstZ xs0 xs1 ((k1 : Int) + 1) = [] ∧ firstC xs0 xs1 ((k1 : Int) + 1) = 3) := hide (first_nil (n := k1 + 1) HZ0.out HM.out hhd)
    rw [List.length_nil]
    clear hx hx2 hba hA0 hA1 hhd
    go_wp2_with fail
    go_loopw [23] (fun iv wr => iv = .int .i64 0 ∧ IsX w wr) (fun _ _ => 0)
    case atStart => exact ⟨rfl, HX.out⟩
    case round =>
      clear HX
      obtain ⟨rfl, p, rfl⟩ := hrel
      go_wp2_with fail
      go_ret2
      exact SlPost.none HFS.out.1 (by rw [HFS.out.2]; rfl) ⟨p, rfl⟩
  | cons k ks =>
    have HFS : Hid (firstZ xs0 xs1 ((k1 : Int) + 1) = blockL k (k1 + 1) ∧ firstC xs0 xs1 ((k1 : Int) + 1) = 0) := hide (first_some (n := k1 + 1) HZ0.out HM.out hhd)
    obtain ⟨b, g, cg, rfl, hb, hcell, hown⟩ := hba 0 k rfl
    have HO := hide (hown.mono hsz)
    have h0 : 0 < (k :: ks).length := by simp
    obtain ⟨l, hl⟩ : ∃ l, l = (k :: ks).length := ⟨_, rfl⟩
    rw [← hl] at h0 ⊢
    clear hx hx2 hba hA0 hA1 hhd hown hl
    go_wp2_with fail
    go_loopw [23] (fun iv wr => iv = .int .i64 0 ∧ w2 = wr) (fun _ _ => 0)
    case atStart => exact ⟨rfl, rfl⟩
    case round =>
      obtain ⟨rfl, rfl⟩ := hrel
      go_wp2_with fail
      go_ret2
      refine ⟨g, cg, by rw [HFS.out.1, HFS.out.2, blockL_len]; rfl, ?_, HX.out⟩
      rw [HFS.out.1, blockL_len]
      exact HO.out

end Go.Proofs.YtfcfgkkkepifhaaGreatDoor
