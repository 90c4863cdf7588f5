/- The law FnBooking: the walk through the law's own text. Conditions: those of the row's arguments alone; the table of sines as the program's text lays it. -/
import Derived.Test.YtfcfgkkkepifhaaGreatDoorLawFns
import Derived.Test.YtfcfgkkkepifhaaGreatDoorBookFnLaw
import Derived.Test.YtfcfgkkkepifhaaGreatDoorRingFns
namespace Go.Proofs.YtfcfgkkkepifhaaGreatDoor
set_option linter.unusedVariables false
open Go.RowKit Go.Sort

set_option maxHeartbeats 12800000 in
set_option maxRecDepth 100000 in
theorem law_FnBooking (A : Option Addr) (c : Nat) (bs : List Int) (B : Option Addr) (c' : Nat) (ms : List Int) (w : World) (hn : bs.length ≤ maxLen) (hb : ∀ x ∈ bs, byteWf x) (hA : Rd byteC 1 w A bs) (hn' : ms.length ≤ maxLen) (hb' : ∀ x ∈ ms, byteWf x) (hB : Rd byteC 1 w B ms) (HTAB : ∀ V, IsX w V → sinTab V) :
    Calls Tryz.prog 4 #[.slice A bs.length c, .slice B ms.length c'] w fun e w' => e = .returned (.bool true) ∧ IsX w w' := by
  by_cases hl : 1048576 < bs.length ∨ 1048576 < ms.length
  · generalize bs.length = n at hl hn ⊢
    generalize ms.length = n' at hl hn' ⊢
    unfold maxLen at hn hn'
    have hd : (decide ((n : Int) > 1048576) || decide ((n' : Int) > 1048576)) = true := by
      simp only [Bool.or_eq_true, decide_eq_true_eq]; omega
    have HL := hide (cb (c_r8Long A n c B n' c' w) hd)
    clear hd hl hn hn'
    go_enter Tryz.func4, Tryz.ntmps4
    go_wp2_with fail
    refine HL.out.mono ?_
    rintro e w' ⟨rfl, rfl⟩
    go_wp2_with fail
    go_ret
    exact ⟨rfl, IsX.refl _⟩
  have hd : (decide ((bs.length : Int) > 1048576) || decide ((ms.length : Int) > 1048576)) = false := by
    simp only [Bool.or_eq_false_iff, decide_eq_false_iff_not]; omega
  have HR0 := hide (c_R8Rings A c bs w (by omega) hb hA)
  have HA0 := hide (fun (V : World) (hV : IsX w V) (k : Int) (hk : 0 ≤ k) => c_r8At B c' ms k 4 V hk (by omega) (by omega) (by omega) hb' (hB.x hV))
  have HL := hide (fun (V : World) => cb (c_r8Long A bs.length c B ms.length c' V) hd)
  generalize bs.length = bl at HR0 HL ⊢
  generalize ms.length = ml at HA0 HL ⊢
  have HI := hide (info_parts Int64_info)
  have HT := hide HTAB
  clear hn hb hA hn' hb' hB hd hl HTAB
  go_enter Tryz.func4, Tryz.ntmps4
  go_wp2_with fail
  refine (HL.out w).mono ?_
  rintro e w' ⟨rfl, rfl⟩
  clear HL
  go_wp2_with fail
  refine HR0.out.mono ?_
  rintro e w1 ⟨A1, c1, xs, rfl, hxl, hv, hsm, hwf, hO, hx⟩
  have HX1 := hide hx
  have HV := hide hv
  have HWF := hide hwf
  have HRX : Hid (∀ V, IsX w1 V → Rd RingD.cells 5 V A1 xs) := hide (fun V hV => (Own.rd (cells := RingD.cells) (k := 5) (by omega) RingD.cells_len hO rfl).x hV)
  obtain ⟨m, hm⟩ := Int.eq_ofNat_of_zero_le (sumCount_nn hv)
  have HM := hide hm
  have hm120 : m ≤ 120 := by have := (rings_len hv).2; omega
  have hxl' : xs.length ≤ 1099511627776 := by omega
  have HSC := hide (s_SeatCount A1 c1 xs w1 hxl' hwf (HRX.out _ (IsX.refl _)))
  rw [show seatCount1 xs = (m : Int) by simp [seatCount1, hv, hm], show seatCount2 xs = 0 by simp [seatCount2, hv]] at HSC
  clear hx hv hsm hwf hO hm HR0
  go_wp2_with fail
  refine HSC.out.mono ?_
  rintro e w2 ⟨rfl, hx⟩
  have HX2 := hide hx
  have HO0 : Hid ((w2.alloc (.cells #[] 2)).ownsRow w2.heap.size 2 1 (.slice (some ⟨w2.heap.size, 0, none⟩) 0 0) 0 ([].flatMap intC)) := hide (World.ownsRow_made w2 #[] 0 (Nat.le_refl _) (by simp [maxLen]) rfl)
  clear hx HSC
  go_wp2_with fail
  go_loopw [8, 9] (fun ov kv wr => ∃ (k l : Nat) (F : List Int), k ≤ m ∧ l ≤ k ∧ kv = .int .i64 (k : Int) ∧ Hid (l = F.length) ∧ Hid (BookedTo F k) ∧ Hid (wr.ownsRow w2.heap.size 2 1 ov l (F.flatMap intC)) ∧ IsX w2 wr) (fun _ kv _ => m - (intOf kv).toNat)
  case atStart => exact ⟨0, 0, [], Nat.zero_le _, Nat.le_refl _, rfl, hide rfl, hide (BookedTo.nil 0), HO0, (IsX.refl _).alloc _⟩
  case round =>
    clear HO0
    obtain ⟨k, l, F, hk, hlk, rfl, HLF, HBT, HO, p, rfl⟩ := hrel
    by_cases hkm : k < m
    · have hkm' : (k : Int) < (m : Int) := by omega
      go_wp2_with fail
      refine (HA0.out _ (HX1.out.trans (HX2.out.trans ⟨p, rfl⟩)) (k : Int) (by omega)).mono ?_
      rintro e w3 ⟨v, rfl, v0, v1, rfl⟩
      by_cases hv0 : v = 0
      · subst hv0
        go_wp2_with (at_builtin; obtain ⟨i0, hi0, hz0, hz1, hz2⟩ := HI.out; refine wpList_append_any _ rfl (.tmp 53) (.tmp 55) _ rfl w2.heap.size 2 i0 _ 1 8 Tryz.underlying46 hi0 hz0 hz1 hz2 rfl (by omega) _ l (F.flatMap intC) rfl (HO.out.alloc _) _ (some ⟨(xt w2 p).heap.size, 0, none⟩) 1 1 [.int .i64 (k : Int)] rfl (one_reads' (xt w2 p) 2 (k : Int)) (one_one' (k : Int)) (by simp only [maxLen]; omega) (by omega) (by have := size_xt w2 p; simp; omega) ?_; clear hi0 hz0 hz1 hz2; intro v1 w1 hown1 hg1 hat1; have HO1 := hide hown1; have hx1 : IsX w2 w1 := IsX.grown (IsX.alloc (w' := xt w2 p) ⟨p, rfl⟩ _) hg1 (by intro z hz; exact (HO.out.lt z hz).1); clear hown1 hg1 hat1; obtain ⟨p1, rfl⟩ := hx1)
        go_roundw
        case rel => exact ⟨k + 1, l + 1, F ++ [(k : Int)], by omega, by omega, by go_num, hide (by rw [HLF.out]; simp), hide HBT.out.push, hide (by rw [List.flatMap_append]; exact HO1.out), ⟨p1, rfl⟩⟩
        case measure => simp [intOf]; omega
      · have hvb : (v == 0) = false := by simp [hv0]
        go_wp2_with fail
        go_roundw
        case rel => exact ⟨k + 1, l, F, by omega, by omega, by go_num, HLF, hide HBT.out.skip, HO, ⟨p, rfl⟩⟩
        case measure => simp [intOf]; omega
    · obtain rfl : k = m := by omega
      have hlF := HLF.out
      subst hlF
      obtain ⟨A8, c8, hform⟩ := row_slice HO.out
      subst hform
      have HX3 := hide (show IsX w1 (xt w2 p) from HX2.out.trans ⟨p, rfl⟩)
      have HRF : Hid (∀ V, IsX (xt w2 p) V → Rd intC 1 V A8 F) := hide (fun V hV => (own_rd' rfl HO.out).x hV)
      have HFW : Hid (∀ x ∈ F, intWf x) := hide (fun x hx => by have := HBT.out.2 x hx; unfold intWf; omega)
      generalize xt w2 p = W3 at *
      have hFl : F.length ≤ 1099511627776 := by omega
      obtain ⟨fn, hfn⟩ : ∃ l, l = F.length := ⟨_, rfl⟩
      have HFN := hide hfn
      have HOP := hide (i_OpenSeats A1 c1 xs A8 c8 F W3 hxl' HWF.out (HRX.out _ HX3.out) hFl HFW.out (HRF.out _ (IsX.refl _)))
      have hin := bk_income HV.out HM.out HBT.out
      have hfl := bk_len0 HBT.out
      rw [show bookedC xs F = 0 by simp [bookedC, bk_ok HV.out HM.out HBT.out], bk_open HV.out HM.out HBT.out] at HOP
      have HIN := hide (fun V (hV : IsX W3 V) => i_IncomeOf A1 c1 xs A8 c8 F V hxl' HWF.out (HRX.out _ (HX3.out.trans hV)) hFl HFW.out (HRF.out _ hV))
      rw [show bookedC xs F = 0 by simp [bookedC, bk_ok HV.out HM.out HBT.out]] at HIN
      have HFB := hide (fun n2 (hn2 : intWf n2) V (hV : IsX W3 V) => i_FirstBlock A1 c1 xs A8 c8 F n2 V hxl' HWF.out (HRX.out _ (HX3.out.trans hV)) hFl HFW.out (HRF.out _ hV) hn2)
      have HCH := hide (fun n2 (hn2 : intWf n2) V (hV : IsX W3 V) => i_CheapestSeats A1 c1 xs A8 c8 F n2 V hxl' HWF.out (HRX.out _ (HX3.out.trans hV)) hFl HFW.out (HRF.out _ hV) hn2)
      have HBB := hide (fun n2 (hn2 : intWf n2) V (hV : IsX W3 V) => i_BestBlock mainDome A1 c1 xs A8 c8 F n2 V (by simp only [DomeD.wf, mainDome]; simp [maxLen, ByteArray.size]) hxl' HWF.out (HRX.out _ (HX3.out.trans hV)) hFl HFW.out (HRF.out _ hV) hn2 (fun U hU => HT.out U ((HX1.out.trans HX3.out).trans (hV.trans hU))))
      simp only [show mainDome.Name = ⟨#[109, 97, 105, 110]⟩ from rfl, show mainDome.Radius = 9000 from rfl, show mainDome.Tilt = 0 from rfl] at HBB
      rw [← hfn] at HOP HIN HFB HCH HBB hfl ⊢
      obtain ⟨fl, hfl0⟩ : ∃ l, l = (openTo F k).length := ⟨_, rfl⟩
      have HFL := hide hfl0
      rw [← hfl0] at hfl
      have hsum : ((fl : Int) + (fn : Int) != (k : Int)) = false := by simp; omega
      have hflb : fl ≤ 120 := by omega
      have hfnb : fn ≤ 120 := by omega
      generalize hinc : incomeOf xs F = inc at HIN hin
      have HINC := hide hinc
      clear hinc
      clear hfn hfl0 HO hfl hFl
      go_wp2_with fail
      refine HOP.out.mono ?_
      rintro e w4 ⟨A4, c4, rfl, hO4, hx4⟩
      have HX4 := hide hx4
      have HRO : Hid (∀ V, IsX w4 V → Rd intC 1 V A4 (openTo F k)) := hide (fun V hV => (Own.rd (cells := intC) (k := 1) (by omega) intC_len hO4 rfl).x hV)
      clear hO4 hx4 HOP
      try rw [← HFL.out]
      go_wp2_with fail
      refine (HIN.out _ HX4.out).mono ?_
      rintro e w5 ⟨rfl, hx5⟩
      have HX5 := hide (HX4.out.trans hx5)
      have HX45 := hide hx5
      clear hx5 HIN
      go_wp2_with fail
      refine (HA0.out _ ((HX1.out.trans HX3.out).trans HX5.out) 40 (by omega)).mono ?_
      rintro e w5' ⟨v, rfl, v0, v1, rfl⟩
      obtain ⟨n2, hn2⟩ : ∃ n2, n2 = 1 + v := ⟨_, rfl⟩
      have hn21 : 1 ≤ n2 ∧ n2 ≤ 4 := by omega
      go_wp2_with fail
      rw [← hn2]
      obtain ⟨n, hn⟩ := Int.eq_ofNat_of_zero_le (show 0 ≤ n2 by omega)
      have hn1 : 1 ≤ n ∧ n ≤ 4 := by omega
      have hwf2 : intWf n2 := by unfold intWf; omega
      have hnb : ((n : Int) != n2) = false := by simp; omega
      have HBA := hide (blocks_all (x := mainDome) (n := n) main_ok HV.out HM.out HBT.out (by omega) (by omega))
      rw [← hn, show mainDome.Radius = 9000 from rfl] at HBA
      have HCA := hide (fun (h : n ≤ (openTo F k).length) => cheap_all (n := n) HV.out HM.out HBT.out (by omega) (by omega) h)
      have HCN := hide (fun (h : ¬ n ≤ (openTo F k).length) => cheap_not (n := n) HV.out HM.out HBT.out (by omega) (by omega) h)
      rw [← hn] at HCA HCN
      have HN2 := hide hn
      have HFB2 := hide (HFB.out n2 hwf2)
      have HBB2 := hide (HBB.out n2 hwf2)
      have HCH2 := hide (HCH.out n2 hwf2)
      have hczl := cheapZ_len xs F n2
      have hfzl := firstZ_len xs F n2
      clear hn hn2 hwf2 HFB HBB HCH v0 v1
      refine (HFB2.out _ HX5.out).mono ?_
      rintro e w6 ⟨A6, c6, rfl, hO6, hx6⟩
      have HX6 := hide (HX5.out.trans hx6)
      have HY6 := hide (HX45.out.trans hx6)
      have HR6 : Hid (∀ V, IsX w6 V → Rd intC 1 V A6 (firstZ xs F n2)) := hide (fun V hV => (Own.rd (cells := intC) (k := 1) (by omega) intC_len hO6 rfl).x hV)
      clear hO6 hx6 HFB2
      go_wp2_with fail
      refine (HBB2.out _ HX6.out).mono ?_
      rintro e w7 ⟨A7, c7, rfl, hO7, hx7⟩
      have HX7 := hide (HX6.out.trans hx7)
      have HY7 := hide (HY6.out.trans hx7)
      have HZ7 := hide hx7
      have HR7 : Hid (∀ V, IsX w7 V → Rd intC 1 V A7 (bestZ mainDome xs F n2)) := hide (fun V hV => (Own.rd (cells := intC) (k := 1) (by omega) intC_len hO7 rfl).x hV)
      clear hO7 hx7 HBB2
      go_wp2_with fail
      refine (HCH2.out _ HX7.out).mono ?_
      rintro e w8 ⟨A9, c9, rfl, hO8, hx8⟩
      have HX8 := hide (HX7.out.trans hx8)
      have HY8 := hide (HY7.out.trans hx8)
      have HZ8 := hide (HZ7.out.trans hx8)
      have HT8 := hide hx8
      have HR8 : Hid (∀ V, IsX w8 V → Rd intC 1 V A9 (cheapZ xs F n2)) := hide (fun V hV => (Own.rd (cells := intC) (k := 1) (by omega) intC_len hO8 rfl).x hV)
      clear hO8 hx8 HCH2
      generalize firstC xs F n2 = fc at *
      generalize bestC mainDome xs F n2 = bc at *
      generalize bestM mainDome xs F n2 = bm at *
      generalize firstZ xs F n2 = fz at *
      generalize bestZ mainDome xs F n2 = bz at *
      generalize cheapC xs F n2 = cc at *
      generalize cheapS xs F n2 = cs at *
      generalize cheapZ xs F n2 = cz at *
      by_cases hc : n ≤ fl
      · have hge : n2 ≤ (fl : Int) := by have := HN2.out; omega
        have HC := HCA.out (by rw [← HFL.out]; exact hc)
        obtain ⟨l1, l2, l3, l4, l5, l6, l7, l8, l9, l10, l11⟩ := HC
        subst l11
        have HSI := hide (s_IncomeOf A1 c1 xs A9 c9 cz w8 hxl' HWF.out (HRX.out _ (HX3.out.trans HX8.out)) hczl l8 (HR8.out _ (IsX.refl _)))
        rw [l3, l2, l1] at HSI
        have HBK := hide (fun V (hV : IsX w8 V) => i_BookSeats A1 c1 xs A8 c8 F A9 c9 cz V hxl' HWF.out (HRX.out _ ((HX3.out.trans HX8.out).trans hV)) (by have := HFN.out; omega) HFW.out (HRF.out _ (HX8.out.trans hV)) hczl l8 (HR8.out _ hV))
        rw [l4, l1, ← HFN.out] at HBK
        have hbl := bookZ_len xs F cz
        have HII := hide (fun A c V (hV : IsX w8 V) (hR : Rd intC 1 V A (bookZ xs F cz)) => i_IncomeOf A1 c1 xs A c (bookZ xs F cz) V hxl' HWF.out (HRX.out _ ((HX3.out.trans HX8.out).trans hV)) hbl l7 hR)
        rw [l6, l5, HINC.out] at HII
        rw [l1]
        generalize bookZ xs F cz = bkz at *
        clear l2 l3 l4 l5 l6 l7 l8 HCA HCN hczl
        rcases HBA.out with ⟨rfl, rfl, rfl, rfl, rfl⟩ | ⟨kk, b, rfl, rfl, rfl, rfl, rfl, hle, hke, hbe, hhas⟩
        · clear HBA
          go_wp2_with fail
          refine HSI.out.mono ?_
          rintro e w9 ⟨rfl, hx9⟩
          have HX9 := hide hx9
          clear hx9 HSI
          go_wp2_with fail
          refine (HBK.out _ HX9.out).mono ?_
          rintro e w10 ⟨A10, c10, rfl, hO10, hx10⟩
          have HX10 := hide (HX9.out.trans hx10)
          have HR10 : Hid (Rd intC 1 w10 A10 bkz) := hide (Own.rd (cells := intC) (k := 1) (by omega) intC_len hO10 rfl)
          clear hO10 hx10 HBK HX9
          go_wp2_with fail
          refine (HII.out _ _ _ HX10.out HR10.out).mono ?_
          rintro e w11 ⟨rfl, hx11⟩
          have HX11 := hide (HX10.out.trans hx11)
          clear hx11 HII HX10 HR10
          go_wp2_with fail
          go_ret
          exact ⟨rfl, ((HX1.out.trans HX3.out).trans HX8.out).trans HX11.out⟩
        · have HHAS := hide hhas
          have HLE := hide hle
          have hfb := fS_bd 9000 xs n b
          generalize hfs : fS 9000 xs n b = bm at *
          clear HBA hhas hfs hle
          rw [blockL_len, blockL_len]
          go_wp2_with fail
          refine HSI.out.mono ?_
          rintro e w9 ⟨rfl, hx9⟩
          have HX9 := hide hx9
          clear hx9 HSI
          go_wp2_with fail
          refine (HBK.out _ HX9.out).mono ?_
          rintro e w10 ⟨A10, c10, rfl, hO10, hx10⟩
          have HX10 := hide (HX9.out.trans hx10)
          have HR10 : Hid (Rd intC 1 w10 A10 bkz) := hide (Own.rd (cells := intC) (k := 1) (by omega) intC_len hO10 rfl)
          clear hO10 hx10 HBK HX9
          go_wp2_with fail
          refine (HII.out _ _ _ HX10.out HR10.out).mono ?_
          rintro e w11 ⟨rfl, hx11⟩
          have HX11 := hide (HX10.out.trans hx11)
          clear hx11 HII HX10 HR10
          have HXL := hide (HX8.out.trans HX11.out)
          have HYL := hide (HY8.out.trans HX11.out)
          have HZL := hide (HZ8.out.trans HX11.out)
          have HTL := hide (HT8.out.trans HX11.out)
          clear HX11
          have HRB := hide (fun V (hV : IsX w11 V) => HR6.out V (HZL.out.trans hV))
          have HRT := hide (fun V (hV : IsX w11 V) => HR7.out V (HTL.out.trans hV))
          have HHS := hide (fun (j : Nat) (hj : j < n) V (hV : IsX w11 V) => cb (c_r8Has A4 c4 (openTo F k) ((kk : Int) + (j : Int)) V (by have := HFL.out; omega) (HRO.out V (HYL.out.trans hV))) (HHAS.out j hj).1)
          have HHT := hide (fun (j : Nat) (hj : j < n) V (hV : IsX w11 V) => cb (c_r8Has A4 c4 (openTo F k) ((b : Int) + (j : Int)) V (by have := HFL.out; omega) (HRO.out V (HYL.out.trans hV))) (HHAS.out j hj).2)
          rw [← HFL.out] at HHS HHT
          have HSS0 := hide (fun (j : Nat) (hj : j < n) V (hV : IsX w11 V) => s_SeatScore mainDome A1 c1 xs ((kk : Int) + (j : Int)) V (by simp only [DomeD.wf, mainDome]; simp [maxLen, ByteArray.size]) hxl' HWF.out (HRX.out _ ((HX3.out.trans HXL.out).trans hV)) (by unfold intWf; omega))
          simp only [show mainDome.Name = ⟨#[109, 97, 105, 110]⟩ from rfl, show mainDome.Radius = 9000 from rfl, show mainDome.Tilt = 0 from rfl] at HSS0
          have HMS := hide (fun (j : Nat) (hj : j < n) => main_score (k := kk + j) HV.out HM.out (by omega))
          go_wp2_with fail
          go_loopw [29, 30] (fun sv iv wr => ∃ i : Nat, i ≤ n ∧ iv = .int .i64 (i : Int) ∧ sv = .int .i64 (sumS (scoreOf 9000 xs) (kk : Int) i) ∧ IsX w11 wr) (fun _ iv _ => n - (intOf iv).toNat)
          case atStart => exact ⟨0, Nat.zero_le _, rfl, rfl, IsX.refl _⟩
          case round =>
            obtain ⟨i, hi, rfl, rfl, p, rfl⟩ := hrel
            by_cases hin' : i < n
            · have hi2 : (i : Int) < n2 := by have := HN2.out; omega
              have hi3 : (i : Int) < (n : Int) := by omega
              have h0n : (0 : Int) < (n : Int) := by omega
              have HSS := hide (sumS_succ (scoreOf 9000 xs) (kk : Int) i)
              have hsm := sumS_bd (f := scoreOf 9000 xs) (k := (kk : Int)) (n := i) (fun _ _ => scoreOf_bd _ _ _)
              have hsb := scoreOf_bd 9000 xs ((kk : Int) + (i : Int))
              have HSD := hide (HSS0.out i hin')
              have hms := HMS.out i hin'
              rw [show ((kk + i : Nat) : Int) = (kk : Int) + (i : Int) by omega] at hms
              rw [hms.1, hms.2] at HSD
              have HH1 := hide (fun V (hV : IsX (xt w11 p) V) => HHS.out i hin' V (IsX.trans ⟨p, rfl⟩ hV))
              have HH2 := hide (fun V (hV : IsX (xt w11 p) V) => HHT.out i hin' V (IsX.trans ⟨p, rfl⟩ hV))
              clear hms
              generalize scoreOf 9000 xs ((kk : Int) + (i : Int)) = sc at *
              generalize sumS (scoreOf 9000 xs) (kk : Int) i = sj at *
              have hb0 : (blockL (kk : Int) n)[0]? = some (kk : Int) := by rw [blockL_get (by omega)]; simp
              have ht0 : (blockL (b : Int) n)[0]? = some (b : Int) := by rw [blockL_get (by omega)]; simp
              obtain ⟨b1, o1, e1, hb1, q0⟩ := int_rd (HRB.out (xt w11 p) ⟨p, rfl⟩) (blockL_get hin')
              obtain ⟨b1', o1', e1', hb1', q1⟩ := int_rd (HRB.out (xt w11 p) ⟨p, rfl⟩) hb0
              obtain ⟨b2, o2, e2, hb2, r0⟩ := int_rd (HRT.out (xt w11 p) ⟨p, rfl⟩) (blockL_get hin')
              obtain ⟨b2', o2', e2', hb2', r1⟩ := int_rd (HRT.out (xt w11 p) ⟨p, rfl⟩) ht0
              subst e1 e2
              injection e1' with e1'
              injection e1' with f1 f2
              injection e2' with e2'
              injection e2' with f3 f4
              subst f1 f2 f3 f4
              simp only [Nat.add_zero] at q1 r1
              clear hb0 ht0 hb1' hb2'
              go_wp2_with fail
              refine wp_region_x (by kernel_rfl) (by kernel_rfl) ?_
              repeat (go_big_quiet_step (fail))
              go_big_quiet_step ((go_at_call 26; exact call_x (HH1.out _ ⟨_, rfl⟩)))
              repeat (go_big_quiet_step (fail))
              go_big_quiet_step ((go_at_call 26; exact call_x (HH2.out _ ⟨_, rfl⟩)))
              repeat (go_big_quiet_step (fail))
              refine wpQuiet_nil ?_
              rintro _ ⟨q, rfl⟩
              obtain ⟨p2, hp2⟩ : IsX w11 (xt (xt w11 p) q) := IsX.xt ⟨p, rfl⟩ q
              rw [hp2]
              clear q0 q1 r0 r1 hb1 hb2 hp2 HH1 HH2
              obtain ⟨b1', o1', e1', hb1, q0⟩ := int_rd (HRB.out (xt w11 p2) ⟨p2, rfl⟩) (blockL_get hin')
              injection e1' with e1'
              injection e1' with f1 f2
              subst f1 f2
              go_wp2_with fail
              refine (HSD.out _ ⟨p2, rfl⟩).mono ?_
              rintro e wS ⟨rfl, hxS⟩
              have HXS := hide (IsX.trans ⟨p2, rfl⟩ hxS)
              clear hxS q0 hb1 HSD
              go_wp2_with fail
              go_roundw
              case rel => exact ⟨i + 1, by omega, by go_num, congrArg (Value.int .i64) (by rw [HSS.out]), HXS.out⟩
              case measure => simp [intOf]; omega
            · obtain rfl : i = n := by omega
              have hi2 : ¬ (i : Int) < n2 := by have := HN2.out; omega
              have hle : sumS (scoreOf 9000 xs) (kk : Int) i ≤ bm := HLE.out
              go_wp2_with fail
              go_ret
              exact ⟨by first | rfl | (simp [hle]; done) | (simp only [decide_eq_true hle]; rfl), ((HX1.out.trans HX3.out).trans HXL.out).trans ⟨p, rfl⟩⟩
      · have hge : ¬ n2 ≤ (fl : Int) := by have := HN2.out; omega
        have l11 := HCN.out (by rw [← HFL.out]; exact hc)
        subst l11
        generalize cz.length = czl at *
        rcases HBA.out with ⟨rfl, rfl, rfl, rfl, rfl⟩ | ⟨kk, b, rfl, rfl, rfl, rfl, rfl, hle, hke, hbe, hhas⟩
        · clear HBA HCA HCN
          go_wp2_with fail
          go_ret
          exact ⟨rfl, (HX1.out.trans HX3.out).trans HX8.out⟩
        · have HHAS := hide hhas
          have HLE := hide hle
          have hfb := fS_bd 9000 xs n b
          generalize hfs : fS 9000 xs n b = bm at *
          clear HBA hhas hfs hle HCA HCN
          rw [blockL_len, blockL_len]
          have HXL := hide HX8.out
          have HYL := hide HY8.out
          have HZL := hide HZ8.out
          have HTL := hide HT8.out
          have HRB := hide (fun V (hV : IsX w8 V) => HR6.out V (HZL.out.trans hV))
          have HRT := hide (fun V (hV : IsX w8 V) => HR7.out V (HTL.out.trans hV))
          have HHS := hide (fun (j : Nat) (hj : j < n) V (hV : IsX w8 V) => cb (c_r8Has A4 c4 (openTo F k) ((kk : Int) + (j : Int)) V (by have := HFL.out; omega) (HRO.out V (HYL.out.trans hV))) (HHAS.out j hj).1)
          have HHT := hide (fun (j : Nat) (hj : j < n) V (hV : IsX w8 V) => cb (c_r8Has A4 c4 (openTo F k) ((b : Int) + (j : Int)) V (by have := HFL.out; omega) (HRO.out V (HYL.out.trans hV))) (HHAS.out j hj).2)
          rw [← HFL.out] at HHS HHT
          have HSS0 := hide (fun (j : Nat) (hj : j < n) V (hV : IsX w8 V) => s_SeatScore mainDome A1 c1 xs ((kk : Int) + (j : Int)) V (by simp only [DomeD.wf, mainDome]; simp [maxLen, ByteArray.size]) hxl' HWF.out (HRX.out _ ((HX3.out.trans HXL.out).trans hV)) (by unfold intWf; omega))
          simp only [show mainDome.Name = ⟨#[109, 97, 105, 110]⟩ from rfl, show mainDome.Radius = 9000 from rfl, show mainDome.Tilt = 0 from rfl] at HSS0
          have HMS := hide (fun (j : Nat) (hj : j < n) => main_score (k := kk + j) HV.out HM.out (by omega))
          go_wp2_with fail
          go_loopw [29, 30] (fun sv iv wr => ∃ i : Nat, i ≤ n ∧ iv = .int .i64 (i : Int) ∧ sv = .int .i64 (sumS (scoreOf 9000 xs) (kk : Int) i) ∧ IsX w8 wr) (fun _ iv _ => n - (intOf iv).toNat)
          case atStart => exact ⟨0, Nat.zero_le _, rfl, rfl, IsX.refl _⟩
          case round =>
            obtain ⟨i, hi, rfl, rfl, p, rfl⟩ := hrel
            by_cases hin' : i < n
            · have hi2 : (i : Int) < n2 := by have := HN2.out; omega
              have hi3 : (i : Int) < (n : Int) := by omega
              have h0n : (0 : Int) < (n : Int) := by omega
              have HSS := hide (sumS_succ (scoreOf 9000 xs) (kk : Int) i)
              have hsm := sumS_bd (f := scoreOf 9000 xs) (k := (kk : Int)) (n := i) (fun _ _ => scoreOf_bd _ _ _)
              have hsb := scoreOf_bd 9000 xs ((kk : Int) + (i : Int))
              have HSD := hide (HSS0.out i hin')
              have hms := HMS.out i hin'
              rw [show ((kk + i : Nat) : Int) = (kk : Int) + (i : Int) by omega] at hms
              rw [hms.1, hms.2] at HSD
              have HH1 := hide (fun V (hV : IsX (xt w8 p) V) => HHS.out i hin' V (IsX.trans ⟨p, rfl⟩ hV))
              have HH2 := hide (fun V (hV : IsX (xt w8 p) V) => HHT.out i hin' V (IsX.trans ⟨p, rfl⟩ hV))
              clear hms
              generalize scoreOf 9000 xs ((kk : Int) + (i : Int)) = sc at *
              generalize sumS (scoreOf 9000 xs) (kk : Int) i = sj at *
              have hb0 : (blockL (kk : Int) n)[0]? = some (kk : Int) := by rw [blockL_get (by omega)]; simp
              have ht0 : (blockL (b : Int) n)[0]? = some (b : Int) := by rw [blockL_get (by omega)]; simp
              obtain ⟨b1, o1, e1, hb1, q0⟩ := int_rd (HRB.out (xt w8 p) ⟨p, rfl⟩) (blockL_get hin')
              obtain ⟨b1', o1', e1', hb1', q1⟩ := int_rd (HRB.out (xt w8 p) ⟨p, rfl⟩) hb0
              obtain ⟨b2, o2, e2, hb2, r0⟩ := int_rd (HRT.out (xt w8 p) ⟨p, rfl⟩) (blockL_get hin')
              obtain ⟨b2', o2', e2', hb2', r1⟩ := int_rd (HRT.out (xt w8 p) ⟨p, rfl⟩) ht0
              subst e1 e2
              injection e1' with e1'
              injection e1' with f1 f2
              injection e2' with e2'
              injection e2' with f3 f4
              subst f1 f2 f3 f4
              simp only [Nat.add_zero] at q1 r1
              clear hb0 ht0 hb1' hb2'
              go_wp2_with fail
              refine wp_region_x (by kernel_rfl) (by kernel_rfl) ?_
              repeat (go_big_quiet_step (fail))
              go_big_quiet_step ((go_at_call 26; exact call_x (HH1.out _ ⟨_, rfl⟩)))
              repeat (go_big_quiet_step (fail))
              go_big_quiet_step ((go_at_call 26; exact call_x (HH2.out _ ⟨_, rfl⟩)))
              repeat (go_big_quiet_step (fail))
              refine wpQuiet_nil ?_
              rintro _ ⟨q, rfl⟩
              obtain ⟨p2, hp2⟩ : IsX w8 (xt (xt w8 p) q) := IsX.xt ⟨p, rfl⟩ q
              rw [hp2]
              clear q0 q1 r0 r1 hb1 hb2 hp2 HH1 HH2
              obtain ⟨b1', o1', e1', hb1, q0⟩ := int_rd (HRB.out (xt w8 p2) ⟨p2, rfl⟩) (blockL_get hin')
              injection e1' with e1'
              injection e1' with f1 f2
              subst f1 f2
              go_wp2_with fail
              refine (HSD.out _ ⟨p2, rfl⟩).mono ?_
              rintro e wS ⟨rfl, hxS⟩
              have HXS := hide (IsX.trans ⟨p2, rfl⟩ hxS)
              clear hxS q0 hb1 HSD
              go_wp2_with fail
              go_roundw
              case rel => exact ⟨i + 1, by omega, by go_num, congrArg (Value.int .i64) (by rw [HSS.out]), HXS.out⟩
              case measure => simp [intOf]; omega
            · obtain rfl : i = n := by omega
              have hi2 : ¬ (i : Int) < n2 := by have := HN2.out; omega
              have hle : sumS (scoreOf 9000 xs) (kk : Int) i ≤ bm := HLE.out
              go_wp2_with fail
              go_ret
              exact ⟨by first | rfl | (simp [hle]; done) | (simp only [decide_eq_true hle]; rfl), ((HX1.out.trans HX3.out).trans HXL.out).trans ⟨p, rfl⟩⟩
end Go.Proofs.YtfcfgkkkepifhaaGreatDoor
