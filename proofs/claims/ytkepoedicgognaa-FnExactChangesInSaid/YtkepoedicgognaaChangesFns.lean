/- Changes between the offers of a day: ChangesIn of the reference and of the program. Conditions: lists no longer than 2^40. -/
import Derived.Test.YtkepoedicgognaaStartsFns
import Derived.Test.YtkepoedicgognaaDays
namespace Go.Proofs.Ytkepoedicgognaa
set_option linter.unusedVariables false
open Go.RowKit

def kindP (xs : List OfferD) (p : Int) : ByteArray := match xs[p.toNat]? with | some x => x.Kind | none => ⟨#[]⟩
theorem kindP_at {xs : List OfferD} {p : Int} {j : Nat} (e : p = (j : Int)) (h : j < xs.length) : kindP xs p = xs[j].Kind := by
  subst e
  simp [kindP, List.getElem?_eq_getElem h]
/-- changes among the first k + 1 of the order -/
def chTo (xs : List OfferD) (os : List Int) : Nat → Int
  | 0 => 0
  | k + 1 => if (kindP xs (os.getD (k + 1) 0)).toList == (kindP xs (os.getD k 0)).toList then chTo xs os k else chTo xs os k + 1
theorem chTo_bd (xs : List OfferD) (os : List Int) : ∀ k : Nat, 0 ≤ chTo xs os k ∧ chTo xs os k ≤ k
  | 0 => by simp [chTo]
  | k + 1 => by
    have := chTo_bd xs os k
    simp only [chTo]
    split <;> omega
theorem chTo_same {xs : List OfferD} {os : List Int} {k : Nat} (h : k + 1 < os.length) (e : ((kindP xs os[k + 1]).toList == (kindP xs os[k]).toList) = true) : chTo xs os (k + 1) = chTo xs os k := by
  have h1 : os.getD (k + 1) 0 = os[k + 1] := by simp [h]
  have h2 : os.getD k 0 = os[k] := by simp [show k < os.length by omega]
  simp only [chTo, h1, h2, e]; simp
theorem chTo_diff {xs : List OfferD} {os : List Int} {k : Nat} (h : k + 1 < os.length) (e : ((kindP xs os[k + 1]).toList == (kindP xs os[k]).toList) = false) : chTo xs os (k + 1) = chTo xs os k + 1 := by
  have h1 : os.getD (k + 1) 0 = os[k + 1] := by simp [h]
  have h2 : os.getD k 0 = os[k] := by simp [show k < os.length by omega]
  simp only [chTo, h1, h2, e]; simp
def changesZ (xs : List OfferD) (ps : List Int) : Int := if askB xs ps = 0 then chTo xs (startZ xs ps) (ps.length - 1) else 0
theorem ask_zero {xs : List OfferD} {ps : List Int} (h : askB xs ps = 0) : offersB xs = true ∧ risesB ps 0 ((xs.length : Nat) - 1 : Int) = true := by
  cases h1 : offersB xs
  · rw [ask_bad h1] at h; omega
  · cases h2 : risesB ps 0 ((xs.length : Nat) - 1 : Int)
    · rw [ask_range h1 h2] at h; omega
    · exact ⟨rfl, rfl⟩
theorem changes_no {xs : List OfferD} {ps : List Int} (h : askB xs ps ≠ 0) : changesZ xs ps = 0 := by simp [changesZ, h]
theorem changes_ok {xs : List OfferD} {ps : List Int} (h : askB xs ps = 0) : changesZ xs ps = chTo xs (startZ xs ps) (ps.length - 1) := by simp [changesZ, h]
theorem rises_few {ps : List Int} {m : Int} (h : risesB ps 0 (m - 1) = true) : (ps.length : Int) ≤ m ∨ ps = [] := by
  rcases Nat.eq_zero_or_pos ps.length with h0 | h0
  · exact .inr (List.eq_nil_of_length_eq_zero h0)
  · left
    have key : ∀ i (hi : i < ps.length), (i : Int) ≤ ps[i] := fun i => by
      induction i with
      | zero => intro hi; have := (rises_mem h _ (List.getElem_mem hi)).1; omega
      | succ j ih => intro hi; have h1 := ih (by omega); have h2 := rises_lt h (i := j) hi; omega
    have h1 := key (ps.length - 1) (by omega)
    have h2 := (rises_mem h _ (List.getElem_mem (show ps.length - 1 < ps.length by omega))).2
    omega

set_option maxRecDepth 100000 in
set_option maxHeartbeats 3200000 in
theorem s_ChangesIn (A0 : Option Addr) (c0 : Nat) (xs0 : List OfferD) (A1 : Option Addr) (c1 : Nat) (xs1 : List Int) (w : World) (hn0 : xs0.length ≤ 1099511627776) (hw0 : ∀ x ∈ xs0, x.wf) (hA0 : Rd OfferD.cells 5 w A0 xs0) (hn1 : xs1.length ≤ 1099511627776) (hw1 : ∀ x ∈ xs1, intWf x) (hA1 : Rd intC 1 w A1 xs1) : Calls Try.prog 31 #[.slice A0 xs0.length c0, .slice A1 xs1.length c1] w fun e w' => e = .returned (.tuple #[.int .i64 (changesZ xs0 xs1), .int .i64 (askB xs0 xs1)]) ∧ IsX w w' := by
  by_cases hz : askB xs0 xs1 = 0
  case neg =>
    have HZ := hide (changes_no hz)
    obtain ⟨mc, hmc⟩ : ∃ mc, mc = askB xs0 xs1 := ⟨_, rfl⟩
    have HMC := hide hmc
    rw [← hmc] at hz
    have hzb : (mc != 0) = true := by rw [bne_iff_ne]; exact hz
    go_enter Try.func31, Try.ntmps31
    go_wp2_with fail
    refine (c_l22Ask A0 c0 xs0 A1 c1 xs1 w hn0 hw0 hA0 hn1 hw1 hA1).mono ?_
    rintro e w1 ⟨rfl, hx⟩
    rw [← HMC.out]
    clear hmc
    go_wp2_with fail
    go_ret2
    exact ⟨by rw [HZ.out, ← HMC.out]; rfl, hx⟩
  obtain ⟨hv, hr⟩ := ask_zero hz
  have HR := hide (ask_ok hv hr)
  have HZ := hide (changes_ok HR.out)
  have hl16 := offers_len hv
  have HB := hide (show ∀ p ∈ xs1, 0 ≤ p ∧ p < (xs0.length : Int) from fun p hp => by have := rises_mem hr p hp; omega)
  have hl1 : xs1.length < 20 := by
    rcases rises_few hr with h | rfl
    · omega
    · simp
  clear hv hr hz
  go_enter Try.func31, Try.ntmps31
  go_wp2_with fail
  refine (c_l22Ask A0 c0 xs0 A1 c1 xs1 w hn0 hw0 hA0 hn1 hw1 hA1).mono ?_
  rintro e w1 ⟨rfl, hx⟩
  rw [HR.out]
  go_wp2_with fail
  refine (c_l22Starts A0 c0 xs0 A1 c1 xs1 w1 (by omega) (by omega) HB.out (hA0.x hx) (hA1.x hx)).mono ?_
  rintro e W7 ⟨A7, c7, rfl, hO7, hx7⟩
  have hxb := hx.trans hx7
  clear hx hx7
  have HA0 := hide hA0
  have HX := hide hxb
  have HRD : Hid (Rd intC 1 W7 A7 (startZ xs0 xs1)) := hide (Rd.of_own (by omega) intC_len hO7)
  obtain ⟨os, hos⟩ : ∃ os, os = startZ xs0 xs1 := ⟨_, rfl⟩
  obtain ⟨n, hnn⟩ : ∃ n, n = xs1.length := ⟨_, rfl⟩
  obtain ⟨m, hmm⟩ : ∃ m, m = xs0.length := ⟨_, rfl⟩
  have HOL := hide (show os.length = n by rw [hos, startZ_len, hnn])
  have HMEM := hide (show ∀ o ∈ os, 0 ≤ o ∧ o < (m : Int) from fun o ho => by rw [hos] at ho; rw [hmm]; exact HB.out o (startZ_mem.1 ho))
  have HZ' := hide (show changesZ xs0 xs1 = chTo xs0 os (n - 1) by rw [HZ.out, hos, hnn])
  have HM := hide hmm
  have hn20 : n < 20 := by omega
  have hm20 : m ≤ 1048576 := by omega
  rw [← hos] at HRD
  rw [← hnn, ← hmm]
  clear hos hnn hmm hO7 hA0 hA1 hxb hw0 hw1 hn0 hn1 HB HZ
  go_wp2_with fail
  go_loopw [8, 9] (fun cv iv wr => ∃ k : Nat, k ≤ n ∧ iv = .int .i64 ((k + 1 : Nat) : Int) ∧ cv = .int .i64 (chTo xs0 os k) ∧ (k = 0 ∨ k < n) ∧ IsX W7 wr) (fun _ iv _ => n + 1 - (intOf iv).toNat)
  case atStart => exact ⟨0, Nat.zero_le _, rfl, rfl, .inl rfl, IsX.refl _⟩
  case round =>
    obtain ⟨k, hk, rfl, rfl, hk0, p, rfl⟩ := hrel
    rw [show (((k + 1 : Nat) : Int)) = (k : Int) + 1 from rfl]
    have hbd := chTo_bd xs0 os k
    obtain ⟨s1, s2⟩ := hbd
    by_cases hlt : k + 1 < n
    · have hkx : k + 1 < os.length := by have := HOL.out; omega
      have hky : k < os.length := by omega
      obtain ⟨x1, x2⟩ := HMEM.out _ (List.getElem_mem hkx)
      obtain ⟨y1, y2⟩ := HMEM.out _ (List.getElem_mem hky)
      obtain ⟨i, hi⟩ := Int.eq_ofNat_of_zero_le x1
      obtain ⟨j, hj⟩ := Int.eq_ofNat_of_zero_le y1
      have him : i < m := by omega
      have hjm : j < m := by omega
      have hix : i < xs0.length := by have := HM.out; omega
      have hjx : j < xs0.length := by have := HM.out; omega
      obtain ⟨b7, off7, e7, hb7, ca⟩ := int_rd HRD.out (show os[k + 1]? = some os[k + 1] from List.getElem?_eq_getElem _)
      obtain ⟨b8, off8, e8, hb8, cc⟩ := int_rd HRD.out (show os[k]? = some os[k] from List.getElem?_eq_getElem _)
      rw [e7] at e8
      injection e8 with e8
      injection e8 with e8 e8'
      subst e8 e8' e7
      rw [hi] at ca
      rw [hj] at cc
      obtain ⟨b0, off0, e0, hb0, d0, d1, d2, d3, d4⟩ := OfferD.rd (HA0.out.x HX.out) (show xs0[i]? = some xs0[i] from List.getElem?_eq_getElem _)
      obtain ⟨b1, off1, e1, hb1, f0, f1, f2, f3, f4⟩ := OfferD.rd (HA0.out.x HX.out) (show xs0[j]? = some xs0[j] from List.getElem?_eq_getElem _)
      rw [e0] at e1
      injection e1 with e1
      injection e1 with e1 e1'
      subst e1 e1' e0
      have HK1 := hide (kindP_at hi hix)
      have HK2 := hide (kindP_at hj hjx)
      obtain ⟨ki, hki⟩ : ∃ s, s = xs0[i].Kind := ⟨_, rfl⟩
      obtain ⟨kj, hkj⟩ : ∃ s, s = xs0[j].Kind := ⟨_, rfl⟩
      rw [← hki] at d1 HK1
      rw [← hkj] at f1 HK2
      clear hki hkj hi hj d0 d2 d3 d4 f0 f2 f3 f4 x1 x2 y1 y2
      cases hkk : (ki.toList == kj.toList)
      · have HC := hide (chTo_diff (xs := xs0) hkx (by rw [HK1.out, HK2.out]; exact hkk))
        go_wp2_with fail
        refine wp_region_x (by kernel_rfl) (by kernel_rfl) ?_
        repeat (go_big_quiet_step (fail))
        refine wpQuiet_nil ?_
        rintro _ ⟨pq, rfl⟩
        go_wp2_with fail
        go_roundw
        case rel => exact ⟨k + 1, by omega, by first | rfl | go_num, by rw [HC.out], .inr (by omega), IsX.xt ⟨p, rfl⟩ pq⟩
        case measure => simp [intOf]; omega
      · have HC := hide (chTo_same (xs := xs0) hkx (by rw [HK1.out, HK2.out]; exact hkk))
        go_wp2_with fail
        refine wp_region_x (by kernel_rfl) (by kernel_rfl) ?_
        repeat (go_big_quiet_step (fail))
        refine wpQuiet_nil ?_
        rintro _ ⟨pq, rfl⟩
        go_wp2_with fail
        go_roundw
        case rel => exact ⟨k + 1, by omega, by first | rfl | go_num, by rw [HC.out], .inr (by omega), IsX.xt ⟨p, rfl⟩ pq⟩
        case measure => simp [intOf]; omega
    · have HE := hide (show k = n - 1 by omega)
      go_wp2_with fail
      go_ret2
      exact ⟨by rw [HZ'.out, HR.out, ← HE.out]; rfl, HX.out.trans ⟨p, rfl⟩⟩

set_option maxRecDepth 100000 in
set_option maxHeartbeats 3200000 in
theorem i_ChangesIn (A0 : Option Addr) (c0 : Nat) (xs0 : List OfferD) (A1 : Option Addr) (c1 : Nat) (xs1 : List Int) (w : World) (hn0 : xs0.length ≤ 1099511627776) (hw0 : ∀ x ∈ xs0, x.wf) (hA0 : Rd OfferD.cells 5 w A0 xs0) (hn1 : xs1.length ≤ 1099511627776) (hw1 : ∀ x ∈ xs1, intWf x) (hA1 : Rd intC 1 w A1 xs1) : Calls Try.prog 33 #[.slice A0 xs0.length c0, .slice A1 xs1.length c1] w fun e w' => e = .returned (.tuple #[.int .i64 (changesZ xs0 xs1), .int .i64 (askB xs0 xs1)]) ∧ IsX w w' := by
  cases hv : offersB xs0
  · have HR := hide (ask_bad (ps := xs1) hv)
    have HZ := hide (changes_no (xs := xs0) (ps := xs1) (by rw [HR.out]; omega))
    go_enter Try.func33, Try.ntmps33
    go_wp2_with fail
    refine (cb (c_ValidOffers A0 c0 xs0 w hn0 hw0 hA0) hv).mono ?_
    rintro e w1 ⟨rfl, hx⟩
    go_wp2_with fail
    go_ret2
    exact ⟨by rw [HR.out, HZ.out]; rfl, hx⟩
  cases hr : risesB xs1 0 ((xs0.length : Nat) - 1 : Int)
  · have HR := hide (ask_range hv hr)
    have HZ := hide (changes_no (xs := xs0) (ps := xs1) (by rw [HR.out]; omega))
    go_enter Try.func33, Try.ntmps33
    go_wp2_with fail
    refine (cb (c_ValidOffers A0 c0 xs0 w hn0 hw0 hA0) hv).mono ?_
    rintro e w1 ⟨rfl, hx⟩
    go_wp2_with fail
    refine (cb (c_areIndices A1 c1 xs1 (xs0.length : Int) w1 hn1 (by omega) (by omega) (hA1.x hx)) hr).mono ?_
    rintro e w2 ⟨rfl, hx2⟩
    go_wp2_with fail
    go_ret2
    exact ⟨by rw [HR.out, HZ.out]; rfl, hx.trans hx2⟩
  have HR := hide (ask_ok hv hr)
  have HZ := hide (changes_ok HR.out)
  have hl16 := offers_len hv
  have HB := hide (show ∀ p ∈ xs1, 0 ≤ p ∧ p < (xs0.length : Int) from fun p hp => by have := rises_mem hr p hp; omega)
  have hl1 : xs1.length < 20 := by
    rcases rises_few hr with h | rfl
    · omega
    · simp
  go_enter Try.func33, Try.ntmps33
  go_wp2_with fail
  refine (cb (c_ValidOffers A0 c0 xs0 w hn0 hw0 hA0) hv).mono ?_
  rintro e w1 ⟨rfl, hx⟩
  go_wp2_with fail
  refine (cb (c_areIndices A1 c1 xs1 (xs0.length : Int) w1 hn1 (by omega) (by omega) (hA1.x hx)) hr).mono ?_
  rintro e w2 ⟨rfl, hx2⟩
  have hxa := hx.trans hx2
  clear hx hx2 hv hr
  go_wp2_with fail
  refine (c_byStart A0 c0 xs0 A1 c1 xs1 w2 hl1 HB.out (hA0.x hxa) (hA1.x hxa)).mono ?_
  rintro e W7 ⟨A7, c7, rfl, hO7, hx7⟩
  have hxb := hxa.trans hx7
  clear hxa hx7
  have HA0 := hide hA0
  have HX := hide hxb
  have HRD : Hid (Rd intC 1 W7 A7 (startZ xs0 xs1)) := hide (Rd.of_own (by omega) intC_len hO7)
  obtain ⟨os, hos⟩ : ∃ os, os = startZ xs0 xs1 := ⟨_, rfl⟩
  obtain ⟨n, hnn⟩ : ∃ n, n = xs1.length := ⟨_, rfl⟩
  obtain ⟨m, hmm⟩ : ∃ m, m = xs0.length := ⟨_, rfl⟩
  have HOL := hide (show os.length = n by rw [hos, startZ_len, hnn])
  have HMEM := hide (show ∀ o ∈ os, 0 ≤ o ∧ o < (m : Int) from fun o ho => by rw [hos] at ho; rw [hmm]; exact HB.out o (startZ_mem.1 ho))
  have HZ' := hide (show changesZ xs0 xs1 = chTo xs0 os (n - 1) by rw [HZ.out, hos, hnn])
  have HM := hide hmm
  have hn20 : n < 20 := by omega
  have hm20 : m ≤ 1048576 := by omega
  rw [← hos] at HRD
  rw [← hnn, ← hmm]
  clear hos hnn hmm hO7 hA0 hA1 hxb hw0 hw1 hn0 hn1 HB HZ
  go_wp2_with fail
  go_loopw [7, 8] (fun cv iv wr => ∃ k : Nat, k ≤ n ∧ iv = .int .i64 ((k + 1 : Nat) : Int) ∧ cv = .int .i64 (chTo xs0 os k) ∧ (k = 0 ∨ k < n) ∧ IsX W7 wr) (fun _ iv _ => n + 1 - (intOf iv).toNat)
  case atStart => exact ⟨0, Nat.zero_le _, rfl, rfl, .inl rfl, IsX.refl _⟩
  case round =>
    obtain ⟨k, hk, rfl, rfl, hk0, p, rfl⟩ := hrel
    rw [show (((k + 1 : Nat) : Int)) = (k : Int) + 1 from rfl]
    have hbd := chTo_bd xs0 os k
    obtain ⟨s1, s2⟩ := hbd
    by_cases hlt : k + 1 < n
    · have hkx : k + 1 < os.length := by have := HOL.out; omega
      have hky : k < os.length := by omega
      obtain ⟨x1, x2⟩ := HMEM.out _ (List.getElem_mem hkx)
      obtain ⟨y1, y2⟩ := HMEM.out _ (List.getElem_mem hky)
      obtain ⟨i, hi⟩ := Int.eq_ofNat_of_zero_le x1
      obtain ⟨j, hj⟩ := Int.eq_ofNat_of_zero_le y1
      have him : i < m := by omega
      have hjm : j < m := by omega
      have hix : i < xs0.length := by have := HM.out; omega
      have hjx : j < xs0.length := by have := HM.out; omega
      obtain ⟨b7, off7, e7, hb7, ca⟩ := int_rd HRD.out (show os[k + 1]? = some os[k + 1] from List.getElem?_eq_getElem _)
      obtain ⟨b8, off8, e8, hb8, cc⟩ := int_rd HRD.out (show os[k]? = some os[k] from List.getElem?_eq_getElem _)
      rw [e7] at e8
      injection e8 with e8
      injection e8 with e8 e8'
      subst e8 e8' e7
      rw [hi] at ca
      rw [hj] at cc
      obtain ⟨b0, off0, e0, hb0, d0, d1, d2, d3, d4⟩ := OfferD.rd (HA0.out.x HX.out) (show xs0[i]? = some xs0[i] from List.getElem?_eq_getElem _)
      obtain ⟨b1, off1, e1, hb1, f0, f1, f2, f3, f4⟩ := OfferD.rd (HA0.out.x HX.out) (show xs0[j]? = some xs0[j] from List.getElem?_eq_getElem _)
      rw [e0] at e1
      injection e1 with e1
      injection e1 with e1 e1'
      subst e1 e1' e0
      have HK1 := hide (kindP_at hi hix)
      have HK2 := hide (kindP_at hj hjx)
      obtain ⟨ki, hki⟩ : ∃ s, s = xs0[i].Kind := ⟨_, rfl⟩
      obtain ⟨kj, hkj⟩ : ∃ s, s = xs0[j].Kind := ⟨_, rfl⟩
      rw [← hki] at d1 HK1
      rw [← hkj] at f1 HK2
      clear hki hkj hi hj d0 d2 d3 d4 f0 f2 f3 f4 x1 x2 y1 y2
      cases hkk : (ki.toList == kj.toList)
      · have HC := hide (chTo_diff (xs := xs0) hkx (by rw [HK1.out, HK2.out]; exact hkk))
        go_wp2_with fail
        refine wp_region_x (by kernel_rfl) (by kernel_rfl) ?_
        repeat (go_big_quiet_step (fail))
        refine wpQuiet_nil ?_
        rintro _ ⟨pq, rfl⟩
        go_wp2_with fail
        go_roundw
        case rel => exact ⟨k + 1, by omega, by first | rfl | go_num, by rw [HC.out], .inr (by omega), IsX.xt ⟨p, rfl⟩ pq⟩
        case measure => simp [intOf]; omega
      · have HC := hide (chTo_same (xs := xs0) hkx (by rw [HK1.out, HK2.out]; exact hkk))
        go_wp2_with fail
        refine wp_region_x (by kernel_rfl) (by kernel_rfl) ?_
        repeat (go_big_quiet_step (fail))
        refine wpQuiet_nil ?_
        rintro _ ⟨pq, rfl⟩
        go_wp2_with fail
        go_roundw
        case rel => exact ⟨k + 1, by omega, by first | rfl | go_num, by rw [HC.out], .inr (by omega), IsX.xt ⟨p, rfl⟩ pq⟩
        case measure => simp [intOf]; omega
    · have HE := hide (show k = n - 1 by omega)
      go_wp2_with fail
      go_ret2
      exact ⟨by rw [HZ'.out, HR.out, ← HE.out]; rfl, HX.out.trans ⟨p, rfl⟩⟩

end Go.Proofs.Ytkepoedicgognaa
