/- The worth of a day and the codes for offers and indices: what the reference and the program compute. Conditions: those of Offers. -/
import Derived.Test.YtdedaoafihomoaaOffers
import Derived.Test.YtdedaoafihomoaaNums
namespace Go.Proofs.Ytdedaoafihomoaa
set_option linter.unusedVariables false
open Go.RowKit

theorem offers_len {xs : List OfferD} (h : offersB xs = true) : xs.length ≤ 16 := by
  simp only [offersB, Bool.and_eq_true, decide_eq_true_eq] at h
  exact h.1
theorem offers_ok {xs : List OfferD} (h : offersB xs = true) : ∀ x ∈ xs, (1 ≤ x.Id.size ∧ x.Id.size ≤ 10) ∧ (1 ≤ x.Kind.size ∧ x.Kind.size ≤ 10) ∧ 0 ≤ x.Start ∧ x.Start ≤ 1439 ∧ 1 ≤ x.Length ∧ x.Start + x.Length ≤ 1440 ∧ 0 ≤ x.Worth ∧ x.Worth ≤ 10000 := by
  intro x hx
  simp only [offersB, Bool.and_eq_true] at h
  have h1 := allGood_ok h.2 x hx
  simp only [OfferD.okB, Bool.and_eq_true] at h1
  have h2 := inB_true.1 h1.1.1.2
  have h3 := inB_true.1 h1.1.2
  have h4 := inB_true.1 h1.2
  have h5 := name_size h1.1.1.1.1
  have h6 := name_size h1.1.1.1.2
  omega
/-- the code for offers and indices -/
def askB (xs : List OfferD) (ps : List Int) : Int := if offersB xs = true then (if risesB ps 0 (xs.length - 1) = true then 0 else 2) else 1
theorem ask_bad {xs : List OfferD} {ps : List Int} (h : offersB xs = false) : askB xs ps = 1 := by simp [askB, h]
theorem ask_range {xs : List OfferD} {ps : List Int} (h : offersB xs = true) (h2 : risesB ps 0 (xs.length - 1) = false) : askB xs ps = 2 := by simp [askB, h, h2]
theorem ask_ok {xs : List OfferD} {ps : List Int} (h : offersB xs = true) (h2 : risesB ps 0 (xs.length - 1) = true) : askB xs ps = 0 := by simp [askB, h, h2]
def worthStep (xs : List OfferD) (ps : List Int) (i : Nat) (s : Int) : Int := match ps[i]? with | some p => (match xs[p.toNat]? with | some x => s + x.Worth | none => s) | none => s
def worthOf (xs : List OfferD) (ps : List Int) : Int := if askB xs ps = 0 then upTo (worthStep xs ps) 0 ps.length else 0
theorem worth_next {xs : List OfferD} {ps : List Int} {k j : Nat} (h : k < ps.length) (h' : j < xs.length) (e : ps[k] = (j : Int)) : upTo (worthStep xs ps) 0 (k + 1) = upTo (worthStep xs ps) 0 k + xs[j].Worth := by
  rw [upTo_succ]
  have : ps[k].toNat = j := by omega
  simp only [worthStep, List.getElem?_eq_getElem h, this, List.getElem?_eq_getElem h']
theorem worth_bd (xs : List OfferD) (ps : List Int) (h : ∀ x ∈ xs, 0 ≤ x.Worth ∧ x.Worth ≤ 10000) : ∀ k : Nat, 0 ≤ upTo (worthStep xs ps) 0 k ∧ upTo (worthStep xs ps) 0 k ≤ k * 10000
  | 0 => by simp [upTo]
  | k + 1 => by
    have ih := worth_bd xs ps h k
    rw [upTo_succ]
    have e : (((k + 1 : Nat)) : Int) * 10000 = k * 10000 + 10000 := by rw [Int.natCast_add, Int.add_mul]; omega
    rw [e]
    generalize upTo (worthStep xs ps) 0 k = s at ih ⊢
    unfold worthStep
    split
    · split
      · rename_i x hx
        have := h x (List.mem_of_getElem? hx)
        omega
      · omega
    · omega

set_option maxHeartbeats 1600000 in
theorem i_DayWorth (A0 : Option Addr) (c0 : Nat) (xs0 : List OfferD) (A1 : Option Addr) (c1 : Nat) (xs1 : List Int) (w : World) (hn0 : xs0.length ≤ 1099511627776) (hw0 : ∀ x ∈ xs0, x.wf) (hA0 : Rd OfferD.cells 5 w A0 xs0) (hn1 : xs1.length ≤ 1099511627776) (hw1 : ∀ x ∈ xs1, intWf x) (hA1 : Rd intC 1 w A1 xs1) :
    Calls Try.prog 9 #[.slice A0 xs0.length c0, .slice A1 xs1.length c1] w fun e w' => e = .returned (.tuple #[.int .i64 (worthOf xs0 xs1), .int .i64 (askB xs0 xs1)]) ∧ IsX w w' := by
  cases hv : offersB xs0
  · have HR := hide (ask_bad (ps := xs1) hv)
    have HW := hide (show worthOf xs0 xs1 = 0 by simp [worthOf, HR.out])
    go_enter Try.func9, Try.ntmps9
    go_wp2_with fail
    refine (cb (c_ValidOffers A0 c0 xs0 w hn0 hw0 hA0) hv).mono ?_
    rintro e w1 ⟨rfl, hx⟩
    go_wp2_with fail
    go_ret2
    exact ⟨by rw [HW.out, HR.out]; rfl, hx⟩
  cases hr : risesB xs1 0 ((xs0.length : Nat) - 1 : Int)
  · have HR := hide (ask_range hv hr)
    have HW := hide (show worthOf xs0 xs1 = 0 by simp [worthOf, HR.out])
    go_enter Try.func9, Try.ntmps9
    go_wp2_with fail
    refine (cb (c_ValidOffers A0 c0 xs0 w hn0 hw0 hA0) hv).mono ?_
    rintro e w1 ⟨rfl, hx⟩
    go_wp2_with fail
    refine (cb (c_areIndices A1 c1 xs1 (xs0.length : Nat) w1 hn1 (by omega) (by omega) (hA1.x hx)) hr).mono ?_
    rintro e w2 ⟨rfl, hx2⟩
    go_wp2_with fail
    go_ret2
    exact ⟨by rw [HW.out, HR.out]; rfl, hx.trans hx2⟩
  have HR := hide (ask_ok hv hr)
  have HW := hide (show worthOf xs0 xs1 = upTo (worthStep xs0 xs1) 0 xs1.length by simp [worthOf, HR.out])
  go_enter Try.func9, Try.ntmps9
  go_wp2_with fail
  refine (cb (c_ValidOffers A0 c0 xs0 w hn0 hw0 hA0) hv).mono ?_
  rintro e w1 ⟨rfl, hx⟩
  go_wp2_with fail
  refine (cb (c_areIndices A1 c1 xs1 (xs0.length : Nat) w1 hn1 (by omega) (by omega) (hA1.x hx)) hr).mono ?_
  rintro e w2 ⟨rfl, hx2⟩
  have HV := hide hv
  have HX := hide (hx.trans hx2)
  have hlen := offers_len hv
  have hA0' := hA0.x HX.out
  have hA1' := hA1.x HX.out
  have HM := hide (rises_mem hr)
  have HO := hide (offers_ok hv)
  clear hA0 hA1 hw0 hw1
  obtain ⟨n, hnn⟩ : ∃ n, n = xs1.length := ⟨_, rfl⟩
  have HN := hide hnn
  rw [← hnn] at hn1 ⊢
  clear hnn
  go_wp2
  clear hv hr
  go_loopw [6, 19] (fun s i wr => ∃ k : Nat, k ≤ n ∧ i = .int .i64 k ∧ s = .int .i64 (upTo (worthStep xs0 xs1) 0 k) ∧ IsX w2 wr) (fun _ i _ => n - (intOf i).toNat)
  case atStart => exact ⟨0, Nat.zero_le _, rfl, rfl, IsX.refl _⟩
  case round =>
    obtain ⟨k, hk, rfl, rfl, p, rfl⟩ := hrel
    by_cases hlt : k < n
    · have hltp : k < xs1.length := HN.out ▸ hlt
      obtain ⟨b', off', rfl, hb', d0⟩ := int_rd hA1' (show xs1[k]? = some xs1[k] from List.getElem?_eq_getElem _)
      have hmem := HM.out _ (List.getElem_mem hltp)
      obtain ⟨j, hj⟩ := Int.eq_ofNat_of_zero_le hmem.1
      have hjl : j < xs0.length := by omega
      rw [hj] at d0
      have HS := hide (worth_next hltp hjl hj)
      have HJ := hide hj
      clear hj hmem
      obtain ⟨b, off, rfl, hb, c0', c1', c2', c3', c4'⟩ := OfferD.rd hA0' (show xs0[j]? = some xs0[j] from List.getElem?_eq_getElem _)
      clear hA0' hA1'
      obtain ⟨z0, z1⟩ := worth_bd xs0 xs1 (fun x hx => ⟨(HO.out x hx).2.2.2.2.2.2.1, (HO.out x hx).2.2.2.2.2.2.2⟩) k
      obtain ⟨_, _, _, _, _, _, y0, y1⟩ := HO.out _ (List.getElem_mem hjl)
      go_wp2
      go_roundw
      case rel => exact ⟨k + 1, by omega, by go_num, by rw [HS.out], ⟨p, rfl⟩⟩
      case measure => simp [intOf]; omega
    · obtain rfl : k = n := by omega
      go_wp2
      go_ret2
      exact ⟨by rw [HW.out, HR.out, ← HN.out]; rfl, IsX.trans HX.out ⟨p, rfl⟩⟩


end Go.Proofs.Ytdedaoafihomoaa
