/- The cheapest seats of the program: the stable sort by price. Conditions: lists no longer than 2^40. -/
import Derived.Test.YtfcfgkkkepifhaaGreatDoorStableAll
import Derived.Test.YtfcfgkkkepifhaaGreatDoorCheapLaw
import Derived.Test.YtfcfgkkkepifhaaGreatDoorSortFns
import Derived.Test.YtfcfgkkkepifhaaGreatDoorPutFns
namespace Go.Proofs.YtfcfgkkkepifhaaGreatDoor
set_option linter.unusedVariables false
open Go.RowKit Go.Sort

def Sl3P (zs : List Int) (m code : Int) (w : World) (e : Ending) (w' : World) : Prop :=
  ∃ A c, e = .returned (.tuple #[.slice A zs.length c, .int .i64 m, .int .i64 code]) ∧ Own intC 1 2 w' w.heap.size (.slice A zs.length c) zs ∧ IsX w w'
theorem Sl3P.none {w w' : World} {zs : List Int} {m code : Int} {e : Ending} (hz : zs = []) (he : e = .returned (.tuple #[.slice none 0 0, .int .i64 m, .int .i64 code])) (hx : IsX w w') : Sl3P zs m code w e w' := by
  subst hz; exact ⟨Option.none, 0, he, World.ownsRow_nil _ _ _ _, hx⟩
theorem c_cnan (a : Int) (w : World) : Calls Tryz.prog 80 #[.int .i64 a] w fun e w' => e = .returned (.bool false) ∧ w = w' := by
  go_enter Tryz.func80, Tryz.ntmps80
  go_wp2
  go_ret
  exact ⟨by simp, rfl⟩
theorem c_Compare (a b : Int) (w : World) : Calls Tryz.prog 51 #[.int .i64 a, .int .i64 b] w fun e w' => e = .returned (.int .i64 (Lib.compareInt a b)) ∧ w' = w := by
  have hr : Lib.compareInt a b = if a < b then -1 else if b < a then 1 else 0 := rfl
  have HR := hide hr
  clear hr
  by_cases h1 : a < b
  · rw [if_pos h1] at HR
    go_enter Tryz.func51, Tryz.ntmps51
    go_wp2_with fail
    refine (c_cnan a w).mono ?_
    rintro e w1 ⟨rfl, rfl⟩
    go_wp2_with fail
    refine (c_cnan b w).mono ?_
    rintro e w1 ⟨rfl, rfl⟩
    go_wp2_with fail
    go_ret
    exact ⟨by rw [HR.out]; rfl, rfl⟩
  · rw [if_neg h1] at HR
    by_cases h2 : b < a
    · rw [if_pos h2] at HR
      go_enter Tryz.func51, Tryz.ntmps51
      go_wp2_with fail
      refine (c_cnan a w).mono ?_
      rintro e w1 ⟨rfl, rfl⟩
      go_wp2_with fail
      refine (c_cnan b w).mono ?_
      rintro e w1 ⟨rfl, rfl⟩
      go_wp2_with fail
      go_ret
      exact ⟨by rw [HR.out]; rfl, rfl⟩
    · rw [if_neg h2] at HR
      go_enter Tryz.func51, Tryz.ntmps51
      go_wp2_with fail
      refine (c_cnan a w).mono ?_
      rintro e w1 ⟨rfl, rfl⟩
      go_wp2_with fail
      refine (c_cnan b w).mono ?_
      rintro e w1 ⟨rfl, rfl⟩
      go_wp2_with fail
      go_ret
      exact ⟨by rw [HR.out]; rfl, rfl⟩

set_option maxHeartbeats 1600000 in
theorem c_cheap1 (bx : Nat) (A : Option Addr) (m c : Nat) (xs : List RingD) (x y : Int) (W : World) (hm : m = xs.length) (hn : xs.length ≤ 1099511627776) (hv : ringsB xs = true) (hx : 0 ≤ x ∧ x < sumCount xs) (hy : 0 ≤ y ∧ y < sumCount xs) (hbx : bx < W.heap.size) (hbox : W.cell? ⟨bx, 0, none⟩ = some (.slice A m c)) (hA : Rd RingD.cells 5 W A xs) :
    Calls Tryz.prog 50 #[.int .i64 x, .int .i64 y, .pointer (some ⟨bx, 0, none⟩)] W fun e w' => e = .returned (.int .i64 (Lib.compareInt (priceOf xs x) (priceOf xs y))) ∧ IsX W w' := by
  have hs1 := (rings_len hv).2
  have HX : Hid (∀ V, IsX W V → Calls Tryz.prog 46 #[.slice A m c, .int .i64 x] V fun e w' => e = .returned (.int .i64 (priceOf xs x)) ∧ IsX V w') := hide (fun V hV => by rw [hm]; exact c_seatPrice A c xs x V hn (rings_cnt hv) hx.1 hx.2 (by omega) (hA.x hV))
  have HY : Hid (∀ V, IsX W V → Calls Tryz.prog 46 #[.slice A m c, .int .i64 y] V fun e w' => e = .returned (.int .i64 (priceOf xs y)) ∧ IsX V w') := hide (fun V hV => by rw [hm]; exact c_seatPrice A c xs y V hn (rings_cnt hv) hy.1 hy.2 (by omega) (hA.x hV))
  have HQ : Hid (∀ V, Calls Tryz.prog 51 #[.int .i64 (priceOf xs x), .int .i64 (priceOf xs y)] V fun e w' => e = .returned (.int .i64 (Lib.compareInt (priceOf xs x) (priceOf xs y))) ∧ V = w') := hide (fun V => (c_Compare _ _ V).mono fun _ _ h => ⟨h.1, h.2.symm⟩)
  generalize priceOf xs x = px at *
  generalize priceOf xs y = py at *
  clear hA hm hn hv hx hy hs1
  go_enter Tryz.func50, Tryz.ntmps50
  go_wp2_with fail
  refine wp_region_x (by kernel_rfl) (by kernel_rfl) ?_
  repeat (go_big_quiet_step (fail))
  go_big_quiet_step ((go_at_call 46; exact call_x (HX.out _ ⟨_, rfl⟩)))
  repeat (go_big_quiet_step (fail))
  go_big_quiet_step ((go_at_call 46; exact call_x (HY.out _ ⟨_, rfl⟩)))
  repeat (go_big_quiet_step (fail))
  go_big_quiet_step ((go_at_call 51; exact call_q (HQ.out _)))
  repeat (go_big_quiet_step (fail))
  refine wpQuiet_nil ?_
  rintro _ ⟨q, rfl⟩
  go_wp2_with fail
  go_ret
  exact ⟨rfl, q, rfl⟩

set_option maxHeartbeats 6400000 in
theorem i_CheapestSeats (A0 : Option Addr) (c0 : Nat) (xs0 : List RingD) (A1 : Option Addr) (c1 : Nat) (xs1 : List Int) (n2 : Int) (w : World) (hn0 : xs0.length ≤ 1099511627776) (hw0 : ∀ x ∈ xs0, x.wf) (hA0 : Rd RingD.cells 5 w A0 xs0) (hn1 : xs1.length ≤ 1099511627776) (hw1 : ∀ x ∈ xs1, intWf x) (hA1 : Rd intC 1 w A1 xs1) (hb2 : intWf n2) :
    Calls Tryz.prog 23 #[.slice A0 xs0.length c0, .slice A1 xs1.length c1, .int .i64 n2] w (Sl3P (cheapZ xs0 xs1 n2) (cheapS xs0 xs1 n2) (cheapC xs0 xs1 n2) w) := by
  obtain ⟨W1, hW1⟩ : ∃ W1, W1 = w.alloc (.cells #[.slice A0 xs0.length c0] 24) := ⟨_, rfl⟩
  have hx0 : IsX w W1 := hW1 ▸ (IsX.refl w).alloc _
  have hBx : Blk W1 w.heap.size 24 #[.slice A0 xs0.length c0] := hW1 ▸ Blk.new w _ _
  by_cases hz : manyC xs0 xs1 n2 = 0
  case neg =>
    have HZ := hide (cheap_bad hz)
    have HK := hide (c_checkBlock A0 c0 xs0 A1 c1 xs1 n2 W1 hn0 hw0 (hA0.x hx0) hn1 hw1 (hA1.x hx0) hb2)
    obtain ⟨mc, hmc⟩ : ∃ mc, mc = manyC xs0 xs1 n2 := ⟨_, rfl⟩
    rw [← hmc] at hz HK
    have HMC := hide hmc
    have hzb : (mc != 0) = true := by rw [bne_iff_ne]; exact hz
    have k0 := hBx.cell 0
    simp at k0
    have hbx := hBx.lt
    clear hz hmc hA0 hA1 hw0 hw1
    go_enter Tryz.func23, Tryz.ntmps23
    go_wp2_with fail
    rw [← hW1]
    clear hW1
    go_wp2_with (go_at_call 47; refine HK.out.mono ?_; rintro e w1 ⟨rfl, hx⟩)
    go_ret3
    exact Sl3P.none HZ.out.1 (by rw [HZ.out.2.1, HZ.out.2.2, ← HMC.out]; rfl) (hx0.trans hx)
  obtain ⟨hbk, hin⟩ := many_zero hz
  have hin' := inB_true.1 hin
  obtain ⟨i1, i2⟩ := hin'
  obtain ⟨n, rfl⟩ := Int.eq_ofNat_of_zero_le (show 0 ≤ n2 by omega)
  simp only [bookedB, Bool.and_eq_true] at hbk
  have HV := hide hbk.1
  have HRS := hide hbk.2
  have HK := hide (c_checkBlock A0 c0 xs0 A1 c1 xs1 (n : Int) W1 hn0 hw0 (hA0.x hx0) hn1 hw1 (hA1.x hx0) hb2)
  rw [hz] at HK
  have HO := hide (fun V (hV : IsX W1 V) => c_openSeats A0 c0 xs0 A1 c1 xs1 V HV.out HRS.out hn0 hn1 ((hA0.x hx0).x hV) ((hA1.x hx0).x hV))
  obtain ⟨F, hF⟩ : ∃ F, F = freeL xs0 xs1 := ⟨_, rfl⟩
  rw [show openTo xs1 (sumCount xs0).toNat = F from hF.symm] at HO
  obtain ⟨l, hl⟩ : ∃ l, l = F.length := ⟨_, rfl⟩
  rw [← hl] at HO
  have HL := hide hl
  have HF := hide hF
  have hl120 : l ≤ 120 := by rw [hl, hF]; exact free_len HV.out
  have HZ0 := hide hz
  have HB := hide hBx
  have HX0 := hide hx0
  have HA0 := hide (hA0.x hx0)
  have hbx := hBx.lt
  have k0 := hBx.cell 0
  simp at k0
  have HN0 := hide hn0
  obtain ⟨m0, hm0⟩ : ∃ m, m = xs0.length := ⟨_, rfl⟩
  have HM0 := hide hm0
  rw [← hm0] at hW1 k0 HK HO HB ⊢
  clear hz hin hbk hl hF hBx hx0 hA0 hA1 hw0 hw1 hn1 hn0 hm0
  go_enter Tryz.func23, Tryz.ntmps23
  go_wp2_with fail
  rw [← hW1]
  clear hW1
  go_wp2_with (go_at_call 47; refine HK.out.mono ?_; rintro e w1 ⟨rfl, hx⟩; have k0 := keep hx hbx k0; have hbx := Nat.lt_of_lt_of_le hbx hx.size; have HX1 := hide hx; clear hx)
  refine (HO.out w1 HX1.out).mono ?_
  rintro e w2 ⟨A2, c2, rfl, hO2, hx2⟩
  have HX2 := hide (HX1.out.trans hx2)
  by_cases hfew : l < n
  · have HZ := hide (cheap_few HZ0.out (by rw [← HF.out, ← HL.out]; omega))
    have hfz : ((l : Int) < (n : Int)) := by omega
    clear hO2 k0 hbx
    go_wp2_with fail
    go_ret3
    exact Sl3P.none HZ.out.1 (by rw [HZ.out.2.1, HZ.out.2.2]; rfl) (HX0.out.trans HX2.out)
  have hl0 : 0 < l := by omega
  obtain ⟨g, rfl, hg0, hg1⟩ := own_block hO2 (by rw [← HL.out]; exact hl0)
  have hlc : l ≤ c2 := by
    rcases hO2.2 with ⟨hv, h0⟩ | ⟨g', cap, cur, hv, hb, hh, h1, h2, h3, h4⟩
    · have := HL.out; omega
    · injection hv with hA hn hc
      have := HL.out; omega
  have HZ := hide (cheap_ok HZ0.out (by rw [← HF.out, ← HL.out]; omega))
  have hw12 := hx2.size
  have HROW : Hid (RowAt g l c2 w1 w2 F) := hide ⟨hx2, hg0, by
    have h := hO2
    unfold Own at h
    rw [flat_nums, ← HL.out] at h
    exact h⟩
  have hcmp : CmpOk (priceOf xs0) (fun z => 0 ≤ z ∧ z < sumCount xs0) w.heap.size w1 := fun W hW x y hx hy =>
    c_cheap1 w.heap.size A0 m0 c0 xs0 x y W HM0.out HN0.out HV.out hx hy (Nat.lt_of_lt_of_le hbx hW.size) (keep hW hbx k0) ((HA0.out.x HX1.out).x hW)
  have HSORT := hide (c_SortStable (priceOf xs0) (fun z => 0 ≤ z ∧ z < sumCount xs0) w.heap.size F l c2 g w1 w2 hcmp (by rw [HF.out]; exact free_pw _ _) (fun z hz => free_mem (by rw [← HF.out]; exact hz)) HL.out (by omega) HROW.out)
  have hfz : ¬ ((l : Int) < (n : Int)) := by omega
  clear hO2 hcmp hw12 hg0 hx2
  go_wp2_with (go_at_call 49; refine HSORT.out.mono ?_; rintro e w3 ⟨rfl, Z, z1, z2, z3⟩; have HZZ := hide (show _ ∧ _ ∧ _ from ⟨z1, z2, z3⟩); clear z1 z2 z3)
  obtain ⟨C, hC⟩ : ∃ C, C = Z.take n := ⟨_, rfl⟩
  have hZl : Z.length = l := by rw [HZZ.out.1.length_eq, HL.out]
  have hCn : C.length = n := by rw [hC, List.length_take]; omega
  have HCL : Hid (cheapL xs0 xs1 (n : Int) = C) := hide (by
    unfold cheapL
    rw [← HF.out, ← ordB_eq HZZ.out.1 HZZ.out.2.1 (by rw [HF.out]; exact lt_nodup (free_pw _ _)), Int.toNat_natCast, hC])
  have HRC : Hid (Rd intC 1 w3 (some ⟨g, 0, none⟩) C) := hide (fun i x hi => by
    refine HZZ.out.2.2.rd i x ?_
    rw [hC, List.getElem?_take] at hi
    split at hi
    · exact hi
    · cases hi)
  have HMEM : Hid (∀ z ∈ sortI C, 0 ≤ z ∧ z < sumCount xs0) := hide (fun z hz => by
    have h1 := (sortI_perm C).mem_iff.1 hz
    rw [hC] at h1
    have h2 := HZZ.out.1.mem_iff.1 (List.mem_of_mem_take h1)
    rw [HF.out] at h2
    exact free_mem h2)
  have HCN := hide hCn
  have HCLO := hide (c_Clone (some ⟨g, 0, none⟩) c2 C w3 (by omega) HRC.out)
  rw [hCn] at HCLO
  have HX3 := hide ((HX0.out.trans HX1.out).trans HZZ.out.2.2.1)
  have HX13 := hide HZZ.out.2.2.1
  clear hC hCn hZl HROW HSORT
  have hnl : (n : Int) ≤ (c2 : Int) := by omega
  have hsn : (0 : Int) ≤ (n : Int) := by omega
  go_wp2_with (go_at_call 52; refine HCLO.out.mono ?_; rintro e w4 ⟨A4, c4, rfl, hO4, hx4⟩; have HX4 := hide hx4; have HSO := hide (c_Sort w3 A4 c4 C w3.heap.size w4 (by rw [HCN.out]; exact hO4) hx4 (Nat.le_refl _) (by rw [HCN.out]; omega)); rw [HCN.out] at HSO; clear hO4 hx4)
  refine HSO.out.mono ?_
  rintro e w5 ⟨rfl, hO5, hx5⟩
  have HO5 := hide hO5
  have HSL : Hid ((sortI C).length = n) := hide (by rw [sortI_len]; exact HCN.out)
  rw [HSL.out] at hO5
  have HR5 : Hid (Rd intC 1 w5 A4 (sortI C)) := hide (Own.rd (cells := intC) (k := 1) (by omega) intC_len hO5 HSL.out.symm)
  have HX5 := hide hx5
  have HXX := hide (HX3.out.trans hx5)
  have k1 := keep (HX13.out.trans hx5) hbx k0
  have hbx5 := Nat.lt_of_lt_of_le hbx (HX13.out.trans hx5).size
  have HPR := hide (fun z => price_bd (xs := xs0) (fun x hx => by have := rings_ok HV.out x hx; omega) z)
  have HSUM := hide (sumP_bd (pr := priceOf xs0) HPR.out)
  clear hO5 hx5 HSO HCLO HRC k0 hbx HX4 hg1
  obtain ⟨bx, hbxx⟩ : ∃ bx, bx = w.heap.size := ⟨_, rfl⟩
  rw [← hbxx] at k1 hbx5 ⊢
  clear hbxx HB
  go_wp2_with fail
  go_loopw [12, 40] (fun sv iv wr => ∃ i : Nat, i ≤ n ∧ sv = .int .i64 (sumP (priceOf xs0) ((sortI C).take i)) ∧ iv = .int .i64 (i : Int) ∧ IsX w5 wr) (fun _ iv _ => n - (intOf iv).toNat)
  case atStart => exact ⟨0, Nat.zero_le _, rfl, rfl, IsX.refl _⟩
  case round =>
    obtain ⟨i, hi, rfl, rfl, p, rfl⟩ := hrel
    by_cases hlt : i < n
    · have hix : i < (sortI C).length := by rw [HSL.out]; exact hlt
      have hzi := HMEM.out _ (List.getElem_mem hix)
      obtain ⟨b, off, rfl, hb, c0'⟩ := int_rd (HR5.out.x ⟨p, rfl⟩) (show (sortI C)[i]? = some (sortI C)[i] from List.getElem?_eq_getElem _)
      have HST := hide (sumP_take (pr := priceOf xs0) hix)
      have hsb := HSUM.out ((sortI C).take i)
      have hln : ((sortI C).take i).length ≤ 60 := by rw [List.length_take]; omega
      have hsb2 : 0 ≤ sumP (priceOf xs0) ((sortI C).take i) ∧ sumP (priceOf xs0) ((sortI C).take i) ≤ 600000 := by
        refine ⟨hsb.1, Int.le_trans hsb.2 ?_⟩
        have : (((sortI C).take i).length : Int) ≤ 60 := by omega
        omega
      have hpb := HPR.out (sortI C)[i]
      have HPC := hide (fun V (hV : IsX w5 V) => c_seatPrice A0 c0 xs0 (sortI C)[i] V HN0.out (rings_cnt HV.out) hzi.1 hzi.2 (by have := (rings_len HV.out).2; omega) ((HA0.out.x HX1.out).x ((HX13.out.trans HX5.out).trans hV)))
      rw [← HM0.out] at HPC
      have k2 := keep ⟨p, rfl⟩ hbx5 k1
      have hbx6 := Nat.lt_of_lt_of_le hbx5 (size_xt w5 p)
      generalize (sortI C)[i] = z at *
      generalize sumP (priceOf xs0) ((sortI C).take i) = sm at *
      generalize priceOf xs0 z = pz at *
      clear hsb hln hzi
      go_wp2_with (go_at_call 46; refine (HPC.out _ ⟨p, rfl⟩).mono ?_; rintro e w6 ⟨rfl, hx6⟩; have HX6 := hide (IsX.trans ⟨p, rfl⟩ hx6); clear hx6)
      go_roundw
      case rel => exact ⟨i + 1, by omega, by rw [HST.out], by go_num, HX6.out⟩
      case measure => simp [intOf]; omega
    · obtain rfl : i = n := by omega
      have HT : Hid ((sortI C).take i = sortI C) := hide (List.take_of_length_le (by rw [HSL.out]; exact Nat.le_refl _))
      have HSS : Hid (sumP (priceOf xs0) (sortI C) = sumP (priceOf xs0) C) := hide (sumP_perm (sortI_perm C))
      rw [HT.out]
      have HFIN : Hid (Own intC 1 2 w5 w3.heap.size (.slice A4 (sortI C).length c4) (sortI C)) := hide HO5.out
      go_wp2_with fail
      go_ret3
      refine ⟨A4, c4, ?_, ?_, HXX.out.trans ⟨p, rfl⟩⟩
      · rw [HZ.out.1, HZ.out.2.1, HZ.out.2.2, HCL.out, HSL.out, HSS.out]; rfl
      · rw [HZ.out.1, HCL.out]
        exact row_le (own_x HFIN.out ⟨p, rfl⟩) HX3.out.size

end Go.Proofs.YtfcfgkkkepifhaaGreatDoor
