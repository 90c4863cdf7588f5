/- The cheapest seats of the reference: the cheapest is looked for n times. Conditions: lists no longer than 2^40. -/
import Derived.Test.YtadmpefbpklibaaCheapest
namespace Go.Proofs.Ytadmpefbpklibaa
set_option linter.unusedVariables false
open Go.RowKit Go.Sort

set_option maxHeartbeats 6400000 in
theorem s_CheapestSeats (A0 : Option Addr) (c0 : Nat) (xs0 : List RingD) (A1 : Option Addr) (c1 : Nat) (xs1 : List Int) (n2 : Int) (w : World) (hn0 : xs0.length ≤ 1099511627776) (hw0 : ∀ x ∈ xs0, x.wf) (hA0 : Rd RingD.cells 5 w A0 xs0) (hn1 : xs1.length ≤ 1099511627776) (hw1 : ∀ x ∈ xs1, intWf x) (hA1 : Rd intC 1 w A1 xs1) (hb2 : intWf n2) :
    Calls Try.prog 5 #[.slice A0 xs0.length c0, .slice A1 xs1.length c1, .int .i64 n2] w (Sl3P (cheapZ xs0 xs1 n2) (cheapS xs0 xs1 n2) (cheapC xs0 xs1 n2) w) := by
  by_cases hz : manyC xs0 xs1 n2 = 0
  case neg =>
    have HZ := hide (cheap_bad hz)
    have HK := hide (c_l23Many A0 c0 xs0 A1 c1 xs1 n2 w hn0 hw0 hA0 hn1 hw1 hA1 hb2)
    obtain ⟨mc, hmc⟩ : ∃ mc, mc = manyC xs0 xs1 n2 := ⟨_, rfl⟩
    rw [← hmc] at hz HK
    have HMC := hide hmc
    have hzb : (mc != 0) = true := by rw [bne_iff_ne]; exact hz
    clear hz hmc hA0 hA1 hw0 hw1
    go_enter Try.func5, Try.ntmps5
    go_wp2_with (go_at_call 14; refine HK.out.mono ?_; rintro e w1 ⟨rfl, hx⟩)
    go_ret3
    exact Sl3P.none HZ.out.1 (by rw [HZ.out.2.1, HZ.out.2.2, ← HMC.out]; rfl) hx
  obtain ⟨hbk, hin⟩ := many_zero hz
  have hin' := inB_true.1 hin
  obtain ⟨i1, i2⟩ := hin'
  obtain ⟨n, rfl⟩ := Int.eq_ofNat_of_zero_le (show 0 ≤ n2 by omega)
  simp only [bookedB, Bool.and_eq_true] at hbk
  have HV := hide hbk.1
  have HRS := hide hbk.2
  have HK := hide (c_l23Many A0 c0 xs0 A1 c1 xs1 (n : Int) w hn0 hw0 hA0 hn1 hw1 hA1 hb2)
  rw [hz] at HK
  have HO := hide (fun V (hV : IsX w V) => c_l23Free A0 c0 xs0 A1 c1 xs1 V HV.out HRS.out hn0 hn1 (hA0.x hV) (hA1.x hV))
  obtain ⟨F, hF⟩ : ∃ F, F = freeL xs0 xs1 := ⟨_, rfl⟩
  rw [show openTo xs1 (sumCount xs0).toNat = F from hF.symm] at HO
  obtain ⟨l, hl⟩ : ∃ l, l = F.length := ⟨_, rfl⟩
  rw [← hl] at HO
  have HL := hide hl
  have HF := hide hF
  have hl120 : l ≤ 120 := by rw [hl, hF]; exact free_len HV.out
  have HZ0 := hide hz
  have HA0 := hide hA0
  have HN0 := hide hn0
  obtain ⟨m0, hm0⟩ : ∃ m, m = xs0.length := ⟨_, rfl⟩
  have HM0 := hide hm0
  rw [← hm0] at HK HO ⊢
  clear hz hin hbk hl hF hA0 hA1 hw0 hw1 hn1 hn0 hm0
  go_enter Try.func5, Try.ntmps5
  go_wp2_with (go_at_call 14; refine HK.out.mono ?_; rintro e w1 ⟨rfl, hx⟩; have HX1 := hide hx; clear hx)
  refine (HO.out w1 HX1.out).mono ?_
  rintro e w2 ⟨A2, c2, rfl, hO2, hx2⟩
  have HX2 := hide (HX1.out.trans hx2)
  by_cases hfew : l < n
  · have HZ := hide (cheap_few HZ0.out (by rw [← HF.out, ← HL.out]; omega))
    have hfz : ((l : Int) < (n : Int)) := by omega
    clear hO2
    go_wp2_with fail
    go_ret3
    exact Sl3P.none HZ.out.1 (by rw [HZ.out.2.1, HZ.out.2.2]; rfl) HX2.out
  have HZ := hide (cheap_ok HZ0.out (by rw [← HF.out, ← HL.out]; omega))
  have hfz : ¬ ((l : Int) < (n : Int)) := by omega
  have HRF : Hid (Rd intC 1 w2 A2 F) := hide (Own.rd (cells := intC) (k := 1) (by omega) intC_len hO2 HL.out)
  have HFM : Hid (∀ z ∈ F, 0 ≤ z ∧ z < sumCount xs0) := hide (fun z hz => free_mem (by rw [← HF.out]; exact hz))
  have HFP : Hid (F.Pairwise (· < ·)) := hide (by rw [HF.out]; exact free_pw _ _)
  obtain ⟨pr, hpr⟩ : ∃ pr, pr = priceOf xs0 := ⟨_, rfl⟩
  have HPRE := hide hpr
  have HPR := hide (fun z => price_bd (xs := xs0) (fun x hx => by have := rings_ok HV.out x hx; omega) z)
  rw [← hpr] at HPR
  have HPC := hide (fun (z : Int) (V : World) (hV : IsX w2 V) (hz : 0 ≤ z ∧ z < sumCount xs0) => c_l23Price A0 c0 xs0 z V HN0.out (rings_cnt HV.out) hz.1 hz.2 (by have := (rings_len HV.out).2; omega) ((HA0.out.x HX2.out).x hV))
  rw [← HM0.out, ← hpr] at HPC
  obtain ⟨Z, hZ⟩ : ∃ Z, Z = ordB pr F := ⟨_, rfl⟩
  have HZE := hide hZ
  have HZL : Hid (Z.length = l) := hide (by rw [hZ, ordB_len, HL.out])
  have HZM : Hid (∀ z ∈ Z, 0 ≤ z ∧ z < sumCount xs0) := hide (fun z hz => HFM.out z (by rw [hZ] at hz; exact (ordB_perm F).mem_iff.1 hz))
  have HZN : Hid (Z.Nodup) := hide (by rw [hZ]; exact (ordB_perm F).nodup_iff.2 (lt_nodup HFP.out))
  have HSUM := hide (sumP_bd (pr := pr) HPR.out)
  have HCL : Hid (cheapL xs0 xs1 (n : Int) = Z.take n) := hide (by unfold cheapL; rw [← HF.out, ← hpr, ← hZ, Int.toNat_natCast])
  have HO0 : Hid (Own intC 1 2 (w2.alloc (.cells #[] 2)) w2.heap.size (.slice (some ⟨w2.heap.size, 0, none⟩) 0 0) []) := hide (World.ownsRow_made w2 #[] 0 (Nat.le_refl _) (by simp [maxLen]) rfl)
  clear hpr hZ hO2 hx2 HO HK
  go_wp2_with fail
  go_loopw [11, 12] (fun ov sv wr => ∃ k : Nat, k ≤ n ∧ sv = .int .i64 (sumP pr (Z.take k)) ∧ (∃ A c, ov = .slice A k c ∧ Hid (Own intC 1 2 wr w2.heap.size (.slice A k c) ((Z.take k).foldl insK []))) ∧ IsX w2 wr) (fun ov _ _ => n - (match ov with | .slice _ k _ => k | _ => 0))
  case atStart => exact ⟨0, Nat.zero_le _, rfl, ⟨_, _, rfl, HO0⟩, (IsX.refl _).alloc _⟩
  case round =>
    clear HO0
    obtain ⟨k, hk, rfl, ⟨A3, c3, rfl, HOK⟩, p, rfl⟩ := hrel
    have HTN : Hid ((Z.take k).Nodup) := hide (HZN.out.sublist (List.take_sublist _ _))
    obtain ⟨out, hout⟩ : ∃ o, o = (Z.take k).foldl insK [] := ⟨_, rfl⟩
    have HOUT := hide hout
    have HOL : Hid (k = out.length) := hide (by rw [hout, ins_len HTN.out, List.length_take]; have := HZL.out; omega)
    rw [← hout] at HOK
    have HRO : Hid (Rd intC 1 (xt w2 p) A3 out) := hide (Own.rd (cells := intC) (k := 1) (by omega) intC_len HOK.out HOL.out)
    clear hout
    by_cases hlt : k < n
    · have hkz : k < Z.length := by have := HZL.out; omega
      have HZK := hide (scan_all (pr := pr) (out := out) HFP.out (fun x hx => (HFM.out x hx).1) (show k < (ordB pr F).length by rw [← HZE.out]; exact hkz) (fun x => by rw [HOUT.out, ← HZE.out]; exact ins_mem HTN.out x))
      have hkn : (k : Int) < (n : Int) := by omega
      go_wp2_with fail
      go_loopw [13, 14] (fun bv iv wr => ∃ i : Nat, i ≤ l ∧ bv = .int .i64 (scanT pr out F i) ∧ iv = .int .i64 (i : Int) ∧ Hid (IsX (xt w2 p) wr)) (fun _ iv _ => l - (intOf iv).toNat)
      case atStart => exact ⟨0, Nat.zero_le _, by rw [scanT_zero], rfl, hide (IsX.refl _)⟩
      case round =>
        obtain ⟨i, hi, rfl, rfl, HXW⟩ := hrel
        by_cases hil : i < l
        · have hif : i < F.length := by rw [← HL.out]; exact hil
          have HSC := hide (scanT_succ (pr := pr) (out := out) hif)
          have hxm := HFM.out _ (List.getElem_mem hif)
          have hbd := scanT_bd (pr := pr) (out := out) HFP.out (fun x hx => (HFM.out x hx).1) (show i ≤ F.length by omega)
          obtain ⟨b, off, rfl, hb, c0'⟩ := int_rd ((HRF.out.x ⟨p, rfl⟩).x HXW.out) (show F[i]? = some F[i] from List.getElem?_eq_getElem _)
          have HFMM := HFM
          have HBM := hide (show scanT pr out F i = -1 ∨ (0 ≤ scanT pr out F i ∧ scanT pr out F i < sumCount xs0) from by
            rcases hbd with h | h
            · exact .inl h
            · exact .inr (HFM.out _ h))
          generalize F[i] = x at *
          generalize scanT pr out F i = best at *
          obtain ⟨hh, hhh⟩ : ∃ hh, hh = hasB out x := ⟨_, rfl⟩
          have HHH := hide hhh
          have HH := hide (fun V (hV : IsX wr V) => c_l00Has A3 c3 out x V (by rw [← HOL.out]; omega) ((HRO.out.x HXW.out).x hV))
          rw [← hhh, ← HOL.out] at HH
          have HPX := hide (fun V (hV : IsX wr V) => HPC.out x V ((IsX.trans ⟨p, rfl⟩ HXW.out).trans hV) hxm)
          have HPB := hide (fun V (hV : IsX wr V) (hb0 : 0 ≤ best ∧ best < sumCount xs0) => HPC.out best V ((IsX.trans ⟨p, rfl⟩ HXW.out).trans hV) hb0)
          clear hhh hbd
          have HCX := hide (fun V (hV : IsX wr V) => keep hV hb c0')
          have HBB := hide hb
          have HXR := hide (IsX.refl wr)
          cases hh
          · by_cases hneg : best < 0
            · have HS1 := hide (show scanS pr out best x = x by unfold scanS; rw [if_pos ⟨HHH.out.symm, .inl hneg⟩])
              have hnd : decide (best < 0) = true := decide_eq_true hneg
              go_wp2_with fail
              refine (HH.out wr HXR.out).mono ?_
              rintro e v1 ⟨rfl, hv1⟩
              have c1' := HCX.out _ hv1
              have hb1 := Nat.lt_of_lt_of_le hb hv1.size
              have HV1 := hide hv1
              clear hv1
              go_wp2_with fail
              go_roundw
              case rel => exact ⟨i + 1, by omega, by rw [HSC.out, HS1.out], by go_num, hide (HXW.out.trans HV1.out)⟩
              case measure => simp [intOf]; omega
            · have hb0 : 0 ≤ best ∧ best < sumCount xs0 := by
                rcases HBM.out with h | h
                · omega
                · exact h
              have hnd : decide (best < 0) = false := decide_eq_false hneg
              have HPB2 := hide (fun V hV => HPB.out V hV hb0)
              obtain ⟨px, hpx⟩ : ∃ px, px = pr x := ⟨_, rfl⟩
              obtain ⟨pb, hpb⟩ : ∃ pb, pb = pr best := ⟨_, rfl⟩
              have HQ := hide (show px = pr x ∧ pb = pr best from ⟨hpx, hpb⟩)
              rw [← hpx] at HPX
              rw [← hpb] at HPB2
              have HNG := hide hneg
              have HHN := hide HHH.out.symm
              clear hpx hpb hb0 hneg
              by_cases hlp : px < pb
              · have HS1 := hide (show scanS pr out best x = x by unfold scanS; rw [if_pos ⟨HHN.out, .inr (by rw [← HQ.out.1, ← HQ.out.2]; exact hlp)⟩])
                go_wp2_with fail
                refine (HH.out wr HXR.out).mono ?_
                rintro e v1 ⟨rfl, hv1⟩
                have c1' := HCX.out _ hv1
                have hb1 := Nat.lt_of_lt_of_le hb hv1.size
                have HV1 := hide hv1
                clear hv1
                go_wp2_with fail
                refine (HPX.out _ HV1.out).mono ?_
                rintro e v2 ⟨rfl, hv2⟩
                have HV2 := hide (HV1.out.trans hv2)
                clear hv2
                go_wp2_with fail
                refine (HPB2.out _ HV2.out).mono ?_
                rintro e v3 ⟨rfl, hv3⟩
                have HV3 := hide (HV2.out.trans hv3)
                have c3' := HCX.out _ HV3.out
                have hb3 := Nat.lt_of_lt_of_le hb HV3.out.size
                clear hv3 c1' hb1
                go_wp2_with fail
                go_roundw
                case rel => exact ⟨i + 1, by omega, by rw [HSC.out, HS1.out], by go_num, hide (HXW.out.trans HV3.out)⟩
                case measure => simp [intOf]; omega
              · have HS1 := hide (show scanS pr out best x = best by unfold scanS; rw [if_neg (by rw [← HQ.out.1, ← HQ.out.2]; intro h; rcases h.2 with h | h; exact HNG.out h; exact hlp h)])
                go_wp2_with fail
                refine (HH.out wr HXR.out).mono ?_
                rintro e v1 ⟨rfl, hv1⟩
                have c1' := HCX.out _ hv1
                have hb1 := Nat.lt_of_lt_of_le hb hv1.size
                have HV1 := hide hv1
                clear hv1
                go_wp2_with fail
                refine (HPX.out _ HV1.out).mono ?_
                rintro e v2 ⟨rfl, hv2⟩
                have HV2 := hide (HV1.out.trans hv2)
                clear hv2
                go_wp2_with fail
                refine (HPB2.out _ HV2.out).mono ?_
                rintro e v3 ⟨rfl, hv3⟩
                have HV3 := hide (HV2.out.trans hv3)
                clear hv3 c1' hb1
                go_wp2_with fail
                go_roundw
                case rel => exact ⟨i + 1, by omega, by rw [HSC.out, HS1.out], by go_num, hide (HXW.out.trans HV3.out)⟩
                case measure => simp [intOf]; omega
          · have HS1 := hide (show scanS pr out best x = best by unfold scanS; rw [if_neg (by rw [← HHH.out]; simp)])
            go_wp2_with fail
            refine (HH.out wr HXR.out).mono ?_
            rintro e v1 ⟨rfl, hv1⟩
            have HV1 := hide hv1
            clear hv1
            go_wp2_with fail
            go_roundw
            case rel => exact ⟨i + 1, by omega, by rw [HSC.out, HS1.out], by go_num, hide (HXW.out.trans HV1.out)⟩
            case measure => simp [intOf]; omega
        · obtain rfl : i = l := by omega
          obtain ⟨z, hzz⟩ : ∃ z, z = Z[k] := ⟨_, rfl⟩
          have HZZ : Hid (scanT pr out F i = z) := hide (by have h := HZK.out; rw [← HL.out] at h; rw [h, hzz]; simp only [HZE.out])
          have HTS : Hid (Z.take (k + 1) = Z.take k ++ [z]) := hide (by rw [hzz]; exact List.take_succ_eq_append_getElem hkz)
          have HZB := hide (show 0 ≤ z ∧ z < sumCount xs0 by rw [hzz]; exact HZM.out _ (List.getElem_mem hkz))
          rw [HZZ.out]
          have hsb := HSUM.out (Z.take k)
          have hln : (Z.take k).length ≤ 60 := by rw [List.length_take]; omega
          have hsb2 : 0 ≤ sumP pr (Z.take k) ∧ sumP pr (Z.take k) ≤ 600000 := by
            refine ⟨hsb.1, Int.le_trans hsb.2 ?_⟩
            have : ((Z.take k).length : Int) ≤ 60 := by omega
            omega
          have hpb := HPR.out z
          have HSS := hide (show sumP pr (Z.take (k + 1)) = sumP pr (Z.take k) + pr z by rw [HTS.out, sumP_append]; simp [sumP])
          have HFD := hide (show (Z.take (k + 1)).foldl insK [] = insK out z by rw [HTS.out, List.foldl_append, HOUT.out]; rfl)
          have HIL : Hid ((insK out z).length = k + 1) := hide (by
            have h1 : (Z.take (k + 1)).Nodup := HZN.out.sublist (List.take_sublist _ _)
            have h2 := ins_len h1
            rw [HFD.out, List.length_take] at h2
            rw [h2]; omega)
          have HPU := hide (c_l00Put A3 k c3 out z wr HOL.out (by omega) (HRO.out.x HXW.out))
          rw [HIL.out] at HPU
          have HPC2 := hide (fun V (hV : IsX wr V) => HPC.out z V ((IsX.trans ⟨p, rfl⟩ HXW.out).trans hV) HZB.out)
          generalize sumP pr (Z.take k) = sm at *
          generalize pr z = pz at *
          clear hsb hln hzz
          go_wp2_with fail
          refine HPU.out.mono ?_
          rintro e v1 ⟨A4, c4, rfl, hO4, hv1⟩
          have HV1 := hide hv1
          have HO4 := hide hO4
          clear hO4 hv1
          go_wp2_with fail
          refine (HPC2.out _ HV1.out).mono ?_
          rintro e v2 ⟨rfl, hv2⟩
          have HV2 := hide (HV1.out.trans hv2)
          have HO5 := hide (own_x HO4.out hv2)
          clear hv2
          go_wp2_with fail
          go_roundw
          case rel => exact ⟨k + 1, by omega, by rw [HSS.out], ⟨A4, c4, rfl, hide (by rw [HFD.out]; exact row_le HO5.out (IsX.trans ⟨p, rfl⟩ HXW.out).size)⟩, (IsX.trans ⟨p, rfl⟩ HXW.out).trans HV2.out⟩
          case measure => simp; omega
    · obtain rfl : k = n := by omega
      have HSR : Hid ((Z.take k).foldl insK [] = sortI (Z.take k)) := hide (ins_sort HTN.out)
      have hkn : ¬ (k : Int) < (k : Int) := by omega
      go_wp2_with fail
      go_ret3
      have hl2 : (sortI (Z.take k)).length = k := by rw [← HSR.out, ← HOUT.out, ← HOL.out]
      refine ⟨A3, c3, ?_, ?_, HX2.out.trans ⟨p, rfl⟩⟩
      · rw [HZ.out.1, HZ.out.2.1, HZ.out.2.2, HCL.out, hl2, ← HPRE.out]; rfl
      · rw [HZ.out.1, HCL.out, hl2, ← HSR.out, ← HOUT.out]
        exact row_le HOK.out HX2.out.size

end Go.Proofs.Ytadmpefbpklibaa
