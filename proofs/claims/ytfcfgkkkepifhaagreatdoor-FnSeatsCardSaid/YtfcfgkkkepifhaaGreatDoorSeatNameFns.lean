/- The names of seats: what the program computes. Conditions: lists no longer than 2^40. -/
import Derived.Test.YtfcfgkkkepifhaaGreatDoorSeats
import Derived.Test.YtfcfgkkkepifhaaGreatDoorAskFns
import Derived.Test.YtfcfgkkkepifhaaGreatDoorRingText
namespace Go.Proofs.YtfcfgkkkepifhaaGreatDoor
set_option linter.unusedVariables false
open Go.RowKit

def decText (n : Nat) : ByteArray := ⟨(Lib.decDigits n).toArray⟩
theorem decText_size (n : Nat) : (decText n).size ≤ n + 1 := by
  show (Lib.decDigits n).length ≤ n + 1
  exact decDigits_size n
theorem c_Decimal (z : Int) (w : World) (h0 : 0 ≤ z) (h1 : z < 100) : Calls Tryz.prog 68 #[.int .i64 z] w fun e w' => e = .returned (.string (decText z.toNat)) ∧ w = w' := by
  obtain ⟨n, rfl⟩ := Int.eq_ofNat_of_zero_le h0
  go_enter Tryz.func68, Tryz.ntmps68
  go_wp2_with fail
  refine (Tryz.strconv_FormatInt_10_small n (by omega) w).mono ?_
  rintro e w' ⟨rfl, rfl⟩
  go_wp2_with fail
  go_ret
  exact ⟨rfl, rfl⟩
def nameT (xs : List RingD) (k : Int) : ByteArray := ⟨#[114]⟩ ++ decText (((seatI xs k : Nat) : Int) + 1).toNat ++ ⟨#[115]⟩ ++ decText (seatN xs k + 1).toNat
def nameZ (xs : List RingD) (k : Int) : ByteArray := if askR xs k = 0 then nameT xs k else ⟨#[]⟩

set_option maxHeartbeats 800000 in
theorem c_seatName (A0 : Option Addr) (c0 : Nat) (xs : List RingD) (k : Int) (w : World) (hv : ringsB xs = true) (h0 : 0 ≤ k) (h1 : k < sumCount xs) (hn : xs.length ≤ 1099511627776) (hA : Rd RingD.cells 5 w A0 xs) :
    Calls Tryz.prog 34 #[.slice A0 xs.length c0, .int .i64 k] w fun e w' => e = .returned (.string (nameT xs k)) ∧ IsX w w' := by
  have hs1 := (rings_len hv).2
  have hl6 := (rings_len hv).1
  have hcn := rings_cnt hv
  have hok := rings_ok hv
  obtain ⟨n0, hlt, n1⟩ := seatN_bd hcn k h0 h1
  have hcm := (hok _ (List.getElem_mem hlt)).2.2.2.1
  have HT := hide (show nameT xs k = ⟨#[114]⟩ ++ decText (((seatI xs k : Nat) : Int) + 1).toNat ++ ⟨#[115]⟩ ++ decText (seatN xs k + 1).toNat from rfl)
  go_enter Tryz.func34, Tryz.ntmps34
  go_wp2_with fail
  refine (c_ringOf A0 c0 xs k w hn hcn h0 h1 (by omega) hA).mono ?_
  rintro e w1 ⟨rfl, hx⟩
  have hN : seatN xs k < 60 := by omega
  have hI : seatI xs k < 6 := by omega
  clear hok hcn hcm n1
  generalize seatN xs k = sn at *
  generalize seatI xs k = si at *
  have z1 : (decText (si + 1)).size ≤ 100 := by have := decText_size (si + 1); omega
  have z2 : (decText (sn + 1).toNat).size ≤ 100 := by have := decText_size (sn + 1).toNat; omega
  have z3 : ((⟨#[114]⟩ : ByteArray) ++ decText (si + 1)).size ≤ 101 := by rw [ByteArray.size_append]; have : (⟨#[114]⟩ : ByteArray).size = 1 := rfl; omega
  have z4 : ((⟨#[114]⟩ : ByteArray) ++ decText (si + 1) ++ (⟨#[115]⟩ : ByteArray)).size ≤ 102 := by rw [ByteArray.size_append]; have : (⟨#[115]⟩ : ByteArray).size = 1 := rfl; omega
  have z5 : (⟨#[114]⟩ : ByteArray).size = 1 := rfl
  have z6 : (⟨#[115]⟩ : ByteArray).size = 1 := rfl
  go_wp2_with fail
  refine (c_Decimal ((si : Int) + 1) w1 (by omega) (by omega)).mono ?_
  rintro e w2 ⟨rfl, rfl⟩
  go_wp2_with fail
  refine (c_Decimal (sn + 1) w1 (by omega) (by omega)).mono ?_
  rintro e w3 ⟨rfl, rfl⟩
  go_wp2_with fail
  go_ret
  exact ⟨by rw [HT.out]; rfl, hx⟩

set_option maxHeartbeats 800000 in
theorem i_SeatName (A0 : Option Addr) (c0 : Nat) (xs0 : List RingD) (n1 : Int) (w : World) (hn0 : xs0.length ≤ 1099511627776) (hw0 : ∀ x ∈ xs0, x.wf) (hA0 : Rd RingD.cells 5 w A0 xs0) (hb1 : intWf n1) :
    Calls Tryz.prog 10 #[.slice A0 xs0.length c0, .int .i64 n1] w fun e w' => e = .returned (.tuple #[.string (nameZ xs0 n1), .int .i64 (askR xs0 n1)]) ∧ IsX w w' := by
  by_cases hz : askR xs0 n1 = 0
  case neg =>
    have HZ := hide (show nameZ xs0 n1 = ⟨#[]⟩ by simp [nameZ, hz])
    have hzb : (askR xs0 n1 != 0) = true := by rw [bne_iff_ne]; exact hz
    go_enter Tryz.func10, Tryz.ntmps10
    go_wp2_with fail
    refine (c_checkSeat A0 c0 xs0 n1 w hn0 hw0 hA0).mono ?_
    rintro e w1 ⟨rfl, hx⟩
    go_wp2_with fail
    go_ret2
    exact ⟨by rw [HZ.out]; rfl, hx⟩
  have hv : ringsB xs0 = true := by
    cases h : ringsB xs0
    · rw [askR_bad h] at hz; omega
    · rfl
  have hr : inB n1 0 (sumCount xs0 - 1) = true := by
    cases h : inB n1 0 (sumCount xs0 - 1)
    · rw [askR_range hv h] at hz; omega
    · rfl
  have HZ := hide (show nameZ xs0 n1 = nameT xs0 n1 by simp [nameZ, hz])
  have HZ0 := hide hz
  have hb := inB_true.1 hr
  clear hr hz
  go_enter Tryz.func10, Tryz.ntmps10
  go_wp2_with fail
  refine (c_checkSeat A0 c0 xs0 n1 w hn0 hw0 hA0).mono ?_
  rintro e w1 ⟨rfl, hx⟩
  rw [HZ0.out]
  go_wp2_with fail
  refine (c_seatName A0 c0 xs0 n1 w1 hv (by omega) (by omega) hn0 (hA0.x hx)).mono ?_
  rintro e w2 ⟨rfl, hx2⟩
  go_wp2_with fail
  go_ret2
  exact ⟨by rw [HZ.out, HZ0.out]; rfl, hx.trans hx2⟩

/-- the first seat with a name -/
def rangeI (n : Nat) : List Int := (List.range n).map fun (i : Nat) => (i : Int)
def namedP (xs : List RingD) (s : ByteArray) (k : Int) : Bool := (nameT xs k).toList == s.toList
def namedI (xs : List RingD) (s : ByteArray) : Int := idxI (namedP xs s) (rangeI (sumCount xs).toNat)
def namedZ (xs : List RingD) (s : ByteArray) : Int := if ringsB xs = true then (if namedI xs s < 0 then 0 else namedI xs s) else 0
def namedC (xs : List RingD) (s : ByteArray) : Int := if ringsB xs = true then (if namedI xs s < 0 then 3 else 0) else 1
theorem range_len (n : Nat) : (rangeI n).length = n := by simp [rangeI]
theorem range_at {n i : Nat} (h : i < (rangeI n).length) : (rangeI n)[i] = (i : Int) := by simp [rangeI]

set_option maxHeartbeats 1600000 in
theorem i_SeatNamed (A0 : Option Addr) (c0 : Nat) (xs0 : List RingD) (s1 : ByteArray) (w : World) (hn0 : xs0.length ≤ 1099511627776) (hw0 : ∀ x ∈ xs0, x.wf) (hA0 : Rd RingD.cells 5 w A0 xs0) (hs1' : s1.size ≤ 1048576) :
    Calls Tryz.prog 11 #[.slice A0 xs0.length c0, .string s1] w fun e w' => e = .returned (.tuple #[.int .i64 (namedZ xs0 s1), .int .i64 (namedC xs0 s1)]) ∧ IsX w w' := by
  cases hv : ringsB xs0
  · have HR := hide (show namedZ xs0 s1 = 0 by simp [namedZ, hv])
    have HC := hide (show namedC xs0 s1 = 1 by simp [namedC, hv])
    go_enter Tryz.func11, Tryz.ntmps11
    go_wp2_with fail
    refine (cb (c_ValidRings A0 c0 xs0 w hn0 hw0 hA0) hv).mono ?_
    rintro e w1 ⟨rfl, hx⟩
    go_wp2_with fail
    go_ret2
    exact ⟨by rw [HR.out, HC.out]; rfl, hx⟩
  have HV := hide hv
  have hs0 := sumCount_nn hv
  have hs1 := (rings_len hv).2
  obtain ⟨n, hnn⟩ := Int.eq_ofNat_of_zero_le hs0
  have HNN := hide hnn
  have HN := hide (show (sumCount xs0).toNat = n by omega)
  have hn120 : n ≤ 120 := by omega
  have hall := fun (W : World) (hx : IsX w W) => c_seatCount A0 c0 xs0 W hn0 (rings_cnt HV.out) (hA0.x hx)
  rw [hnn] at hall
  have HNM := hide (fun (k : Nat) (hk : k < n) (W : World) (hx : IsX w W) => c_seatName A0 c0 xs0 (k : Int) W HV.out (by omega) (by rw [hnn]; omega) hn0 (hA0.x hx))
  go_enter Tryz.func11, Tryz.ntmps11
  go_wp2_with fail
  refine (cb (c_ValidRings A0 c0 xs0 w hn0 hw0 hA0) hv).mono ?_
  rintro e w1 ⟨rfl, hx⟩
  go_wp2_with fail
  refine (hall w1 hx).mono ?_
  rintro e w2 ⟨rfl, hx2⟩
  have HX := hide (hx.trans hx2)
  clear hx hx2 hall hA0 hw0 hs0 hs1 hnn hv
  go_wp2_with fail
  go_loopw [12] (fun iv wr => ∃ k : Nat, k ≤ n ∧ iv = .int .i64 k ∧ Hid (∀ i (h : i < (rangeI n).length), i < k → namedP xs0 s1 (rangeI n)[i] = false) ∧ IsX w2 wr) (fun iv _ => n - (intOf iv).toNat)
  case atStart => exact ⟨0, Nat.zero_le _, rfl, hide (fun i h hi => absurd hi (by omega)), IsX.refl _⟩
  case round =>
    obtain ⟨k, hk, rfl, HF, q, rfl⟩ := hrel
    by_cases hlt : k < n
    · have hkl : k < (rangeI n).length := by rw [range_len]; exact hlt
      have HXk := hide (HX.out.trans ⟨q, rfl⟩)
      cases hp : ((nameT xs0 (k : Int)).toList == s1.toList)
      · have HF' := hide (step_all (p := namedP xs0 s1) hkl HF.out (by rw [range_at]; exact hp))
        go_wp2_with (go_at_call 34; refine (HNM.out k hlt _ HXk.out).mono ?_; rintro e w3 ⟨rfl, p, rfl⟩)
        go_roundw
        case rel => exact ⟨k + 1, by omega, by go_num, HF', IsX.xt ⟨q, rfl⟩ p⟩
        case measure => simp [intOf]; omega
      · have hI : namedI xs0 s1 = (k : Int) := by
          unfold namedI; rw [HN.out]
          exact idxI_at hkl HF.out (by rw [range_at]; exact hp)
        have HR := hide (show namedZ xs0 s1 = (k : Int) by simp only [namedZ, HV.out, if_true, hI]; rw [if_neg (by omega)])
        have HC := hide (show namedC xs0 s1 = 0 by simp only [namedC, HV.out, if_true, hI]; rw [if_neg (by omega)])
        clear hI
        go_wp2_with (go_at_call 34; refine (HNM.out k hlt _ HXk.out).mono ?_; rintro e w3 ⟨rfl, p, rfl⟩)
        go_ret2
        exact ⟨by rw [HR.out, HC.out]; rfl, HXk.out.trans ⟨p, rfl⟩⟩
    · obtain rfl : k = n := by omega
      have hI : namedI xs0 s1 = -1 := by
        unfold namedI; rw [HN.out]
        exact idxI_none (fun i h => HF.out i h (by rw [range_len] at h; exact h))
      have HR := hide (show namedZ xs0 s1 = 0 by simp only [namedZ, HV.out, if_true, hI]; rfl)
      have HC := hide (show namedC xs0 s1 = 3 by simp only [namedC, HV.out, if_true, hI]; rfl)
      clear hI
      go_wp2_with fail
      go_ret2
      exact ⟨by rw [HR.out, HC.out]; rfl, HX.out.trans ⟨q, rfl⟩⟩

end Go.Proofs.YtfcfgkkkepifhaaGreatDoor
