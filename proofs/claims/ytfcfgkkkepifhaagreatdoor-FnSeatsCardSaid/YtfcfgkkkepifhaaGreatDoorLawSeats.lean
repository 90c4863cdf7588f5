/- The law FnSeats: the walk through the law's own text. Conditions: those of the row's arguments; the tables and the library's variables as the program's text lays them. -/
import Derived.Test.YtfcfgkkkepifhaaGreatDoorLawFns
import Derived.Test.YtfcfgkkkepifhaaGreatDoorDomeDraw
import Derived.Test.YtfcfgkkkepifhaaGreatDoorSeatsFnLaw
import Derived.Test.YtfcfgkkkepifhaaGreatDoorSeatScore
import Derived.Test.YtfcfgkkkepifhaaGreatDoorRingFns
namespace Go.Proofs.YtfcfgkkkepifhaaGreatDoor
set_option linter.unusedVariables false
open Go.RowKit

theorem c_r8AtAny (A : Option Addr) (c : Nat) (bs : List Int) (k n : Int) (w : World) (hk : 0 ≤ k) (hn0 : 1 ≤ n) (hn1 : n ≤ 1000000) (hl : bs.length ≤ 1048576) (hb : ∀ x ∈ bs, byteWf x) (hA : Rd byteC 1 w A bs) :
    Calls Tryz.prog 9 #[.slice A bs.length c, .int .i64 k, .int .i64 n] w fun e w' => ∃ v : Int, e = .returned (.int .i64 v) ∧ 0 ≤ v ∧ v < n ∧ w = w' := by
  by_cases h : 1 < n
  · exact c_r8At A c bs k n w hk h hn1 hl hb hA
  · obtain rfl : n = 1 := by omega
    generalize bs.length = m at *
    clear hb hA
    go_enter Tryz.func9, Tryz.ntmps9
    go_wp2_with fail
    go_ret
    exact ⟨0, rfl, Int.le_refl _, by omega, rfl⟩
theorem c_r8Abs (n : Int) (w : World) (h : -1000000 ≤ n ∧ n ≤ 1000000) : Calls Tryz.prog 17 #[.int .i64 n] w fun e w' => e = .returned (.int .i64 (max n (-n))) ∧ w = w' := by
  obtain ⟨h0, h1⟩ := h
  go_enter Tryz.func17, Tryz.ntmps17
  go_wp2_with fail
  all_goals
    go_ret
    refine ⟨?_, rfl⟩
    first | rfl | (congr 2; omega)
theorem c_sRootOf (n : Int) (w : World) (h0 : 0 ≤ n) (h1 : n ≤ 9223372036854775807) : Calls Tryz.prog 14 #[.int .i64 n] w fun e w' => e = .returned (.int .i64 (rootZ n)) ∧ w = w' := by
  have HR := hide (c_l01Root n w h0 h1)
  go_enter Tryz.func14, Tryz.ntmps14
  go_wp2_with fail
  refine HR.out.mono ?_
  rintro e w' ⟨rfl, rfl⟩
  go_wp2_with fail
  go_ret
  exact ⟨rfl, rfl⟩
theorem score_bd (R : Int) (xs : List RingD) (k : Int) : 0 ≤ scoreOf R xs k ∧ scoreOf R xs k ≤ 1000 := scoreZ_bd _ _
theorem sq_small {a : Int} (h : -30000 ≤ a ∧ a ≤ 30000) : 0 ≤ a * a ∧ a * a ≤ 900000000 := by
  constructor
  · rcases Int.le_total 0 a with h2 | h2
    · exact Int.mul_nonneg h2 h2
    · exact Int.mul_nonneg_of_nonpos_of_nonpos h2 h2
  · have p1 := Int.mul_nonneg (show 0 ≤ 30000 - a by omega) (show 0 ≤ 30000 + a by omega)
    grind
set_option maxHeartbeats 12800000 in
set_option maxRecDepth 100000 in
theorem law_FnSeats (A : Option Addr) (c : Nat) (bs : List Int) (B : Option Addr) (c' : Nat) (ms : List Int) (w : World) (hn : bs.length ≤ maxLen) (hb : ∀ x ∈ bs, byteWf x) (hA : Rd byteC 1 w A bs) (hn' : ms.length ≤ maxLen) (hb' : ∀ x ∈ ms, byteWf x) (hB : Rd byteC 1 w B ms) (HTAB : ∀ V, IsX w V → sinTab V) (he : EnvOk w) :
    Calls Tryz.prog 3 #[.slice A bs.length c, .slice B ms.length c'] w fun e w' => e = .returned (.bool true) ∧ IsX w w' := by
  by_cases hl : 1048576 < bs.length ∨ 1048576 < ms.length
  · generalize bs.length = n at hl hn ⊢
    generalize ms.length = n' at hl hn' ⊢
    unfold maxLen at hn hn'
    have hd : (decide ((n : Int) > 1048576) || decide ((n' : Int) > 1048576)) = true := by
      simp only [Bool.or_eq_true, decide_eq_true_eq]; omega
    have HL := hide (cb (c_r8Long A n c B n' c' w) hd)
    clear hd hl hn hn' he
    go_enter Tryz.func3, Tryz.ntmps3
    go_wp2_with fail
    refine HL.out.mono ?_
    rintro e w' ⟨rfl, rfl⟩
    go_wp2_with fail
    go_ret
    exact ⟨rfl, IsX.refl _⟩
  have hd : (decide ((bs.length : Int) > 1048576) || decide ((ms.length : Int) > 1048576)) = false := by
    simp only [Bool.or_eq_false_iff, decide_eq_false_iff_not]; omega
  have HR0 := hide (c_R8Rings A c bs w (by omega) hb hA)
  have HA0 := hide (fun (V : World) (hV : IsX w V) (n : Int) (h1 : 1 ≤ n) (h2 : n ≤ 120) => c_r8AtAny B c' ms 0 n V (by omega) h1 (by omega) (by omega) hb' (hB.x hV))
  have HD0 := hide (fun (V : World) (hV : IsX w V) => c_R8Dome B c' ms V (by omega) hb' (hB.x hV))
  have HL := hide (fun (V : World) => cb (c_r8Long A bs.length c B ms.length c' V) hd)
  generalize bs.length = bl at HR0 HL ⊢
  generalize ms.length = ml at HA0 HD0 HL ⊢
  have HT := hide HTAB
  have HE := hide he
  clear hn hb hA hn' hb' hB hd hl HTAB he
  go_enter Tryz.func3, Tryz.ntmps3
  go_wp2_with fail
  refine (HL.out w).mono ?_
  rintro e w' ⟨rfl, rfl⟩
  clear HL
  go_wp2_with fail
  refine HR0.out.mono ?_
  rintro e w1 ⟨A1, c1, xs, rfl, hxl, hv, hsm, hwf, hO, hx⟩
  have HX1 := hide hx
  have HV := hide hv
  have HWF := hide hwf
  have HRX : Hid (∀ V, IsX w1 V → Rd RingD.cells 5 V A1 xs) := hide (fun V hV => (Own.rd (cells := RingD.cells) (k := 5) (by omega) RingD.cells_len hO rfl).x hV)
  obtain ⟨n, hnn⟩ : ∃ n, n = sumCount xs := ⟨_, rfl⟩
  have HN := hide hnn
  have hn0 : 0 ≤ n := by have := sumCount_nn hv; omega
  have hn120 : n ≤ 120 := by have := (rings_len hv).2; omega
  have hge := count_ge hv
  have hxl' : xs.length ≤ 1099511627776 := by omega
  have HXL := hide hxl'
  have HSC := hide (i_SeatCount A1 c1 xs w1 hxl' hwf (HRX.out _ (IsX.refl _)))
  have HPL := hide (fun k (hk : intWf k) V (hV : IsX w1 V) => i_SeatPlace A1 c1 xs k V hxl' hwf (HRX.out _ hV) hk (fun U hU => HT.out U (HX1.out.trans (hV.trans hU))))
  have HNA := hide (fun k (hk : intWf k) V (hV : IsX w1 V) => i_SeatName A1 c1 xs k V hxl' hwf (HRX.out _ hV) hk)
  have HND := hide (fun s (hs : ByteArray.size s ≤ 1048576) V (hV : IsX w1 V) => i_SeatNamed A1 c1 xs s V hxl' hwf (HRX.out _ hV) hs)
  have HSR := hide (fun d (hd : DomeD.wf d) k (hk : intWf k) V (hV : IsX w1 V) => i_SeatScore d A1 c1 xs k V hd hxl' hwf (HRX.out _ hV) hk (fun U hU => HT.out U (HX1.out.trans (hV.trans hU))))
  rw [show seatCount1 xs = n by simp [seatCount1, hv, hnn], show seatCount2 xs = 0 by simp [seatCount2, hv]] at HSC
  obtain ⟨l, hll⟩ : ∃ l, l = xs.length := ⟨_, rfl⟩
  have HLN := hide hll
  rw [← hll] at HSC HPL HNA HND HSR hxl hge ⊢
  rw [← hnn] at hge
  clear hx hv hsm hwf hO hnn hxl' HR0 hll
  go_wp2_with fail
  refine HSC.out.mono ?_
  rintro e w2 ⟨rfl, hx⟩
  have HX2 := hide hx
  clear hx HSC
  by_cases hz : n = 0
  · subst hz
    have hl0 : l = 0 := by omega
    have g1 : ((l : Int) == 0) = true := by simp; omega
    have g2 : ¬ ((0 : Int) < (l : Int)) := by omega
    have hak : askR xs 0 = 2 := askR_range HV.out (by
      cases h : inB 0 0 (sumCount xs - 1)
      · rfl
      · have := inB_true.1 h; have := HN.out; omega)
    have hpw : placeW xs 0 = (0, 0) := by simp [placeW, hak]
    have HP0 := hide (HPL.out 0 (by unfold intWf; omega) w2 HX2.out)
    rw [hak, hpw] at HP0
    simp only [placeV] at HP0
    clear hak hpw hl0 HPL HNA HND HSR hge hxl
    go_wp2_with fail
    refine HP0.out.mono ?_
    rintro e w3 ⟨rfl, hx⟩
    have HX3 := hide (HX2.out.trans hx)
    clear hx HP0
    go_wp2_with fail
    go_ret
    exact ⟨rfl, (HX1.out.trans HX3.out).alloc _⟩
  have hn1 : 1 ≤ n := by omega
  have g2 : ¬ (n < (l : Int)) := by omega
  go_wp2_with fail
  refine (HA0.out _ (HX1.out.trans HX2.out) n hn1 hn120).mono ?_
  rintro e w3 ⟨kv, rfl, k0, k1, rfl⟩
  have hkwf : intWf kv := by unfold intWf; omega
  obtain ⟨k, rfl⟩ := Int.eq_ofNat_of_zero_le k0
  have hkm : (k : Int) < sumCount xs := by rw [← HN.out]; exact k1
  have hak : askR xs (k : Int) = 0 := askR_ok HV.out (inB_true.2 (by omega))
  have HNK := hide (HNA.out (k : Int) hkwf w2 HX2.out)
  rw [show nameZ xs (k : Int) = nameT xs (k : Int) by simp [nameZ, hak], hak] at HNK
  have HNB := hide (HND.out (nameT xs (k : Int)) (name_short HV.out (by omega) hkm))
  obtain ⟨nb1, nb2⟩ := named_back HV.out hkm
  rw [nb1, nb2] at HNB
  have HPK := hide (HPL.out (k : Int) hkwf)
  obtain ⟨hpx, hpy, hfar⟩ := place_far HV.out (by omega) hkm
  rw [show placeW xs (k : Int) = placeZ xs (k : Int) by simp [placeW, hak], hak] at HPK
  simp only [placeV] at HPK
  have HSK := hide (fun d (hd : DomeD.okB d = true) (hw : DomeD.wf d) => HSR.out d hw (k : Int) hkwf)
  have HSW := hide (fun d (hd : DomeD.okB d = true) => scoreW_ok (x := d) hd hak)
  have HAK := hide hak
  clear hak nb1 nb2 hkm HPL HNA HND HSR hkwf k0
  generalize nameT xs (k : Int) = nm at *
  generalize (placeZ xs (k : Int)).1 = px at *
  generalize (placeZ xs (k : Int)).2 = py at *
  obtain ⟨qx0, qx1⟩ := sq_small hpx
  obtain ⟨qy0, qy1⟩ := sq_small hpy
  obtain ⟨px0, px1⟩ := hpx
  obtain ⟨py0, py1⟩ := hpy
  obtain ⟨qx, hqx⟩ : ∃ q, px * px = q := ⟨_, rfl⟩
  obtain ⟨qy, hqy⟩ : ∃ q, py * py = q := ⟨_, rfl⟩
  rw [hqx] at qx0 qx1 hfar
  rw [hqy] at qy0 qy1 hfar
  have HFR := hide hfar
  have HQX := hide hqx
  have HQY := hide hqy
  clear hfar hqx hqy
  go_wp2_with fail
  refine HNK.out.mono ?_
  rintro e w4 ⟨rfl, hx⟩
  have HX4 := hide (HX2.out.trans hx)
  clear hx HNK
  go_wp2_with fail
  refine (HNB.out _ HX4.out).mono ?_
  rintro e w5 ⟨rfl, hx⟩
  have HX5 := hide (HX4.out.trans hx)
  clear hx HNB
  go_wp2_with fail
  refine (HPK.out _ HX5.out).mono ?_
  rintro e w6 ⟨rfl, hx⟩
  have hX6 := (HX5.out.trans hx).alloc (.cells #[.int .i64 px, .int .i64 py, .int .i64 0] 29)
  have B6 := Blk.new w6 29 #[.int .i64 px, .int .i64 py, .int .i64 0]
  go_wp2_with fail
  obtain ⟨b6, hb6⟩ : ∃ b, b = w6.heap.size := ⟨_, rfl⟩
  rw [← hb6] at B6 ⊢
  clear hb6
  generalize w6.alloc (.cells #[.int .i64 px, .int .i64 py, .int .i64 0] 29) = W6 at *
  have HX6 := hide hX6
  have HB6 := hide B6
  clear hX6 B6 hx HPK HX4 HX5
  refine (HD0.out _ (HX1.out.trans HX6.out)).mono ?_
  rintro e w7 ⟨d, rfl, hdo, hdw, hx⟩
  have HX7 := hide (HX6.out.trans hx)
  have HB7 := hide (HB6.out.x hx)
  have HSD := hide (HSK.out d hdo hdw _ HX7.out)
  rw [(HSW.out d hdo).1, (HSW.out d hdo).2] at HSD
  obtain ⟨sc0, sc1⟩ := score_bd d.Radius xs (k : Int)
  generalize scoreOf d.Radius xs (k : Int) = sc at *
  simp only [domeV]
  clear hx hdo hdw HX6 HB6 HSK HSW HD0
  go_wp2_with fail
  refine HSD.out.mono ?_
  rintro e w8 ⟨rfl, hx⟩
  have HX8 := hide (HX7.out.trans hx)
  have hB8 := HB7.out.x hx
  have a0 := hB8.cell 0
  have a1 := hB8.cell 1
  have a2 := hB8.cell 2
  simp at a0 a1 a2
  have hl8 := hB8.lt
  clear hx HSD HX7 HB7 hB8
  have hqx := HQX.out
  have hqy := HQY.out
  have HRO := hide (fun V => c_sRootOf (qx + qy) V (by omega) (by omega))
  obtain ⟨far, hfr⟩ : ∃ far, rootZ (qx + qy) = far := ⟨_, rfl⟩
  rw [hfr] at HRO HFR
  clear hfr
  go_wp2_with fail
  refine (HRO.out _).mono ?_
  rintro e w9 ⟨rfl, rfl⟩
  have hf0 : 400 ≤ far ∧ far ≤ 30010 := by
    obtain ⟨x, hx, h1, h2⟩ := HFR.out
    have := rings_ok HV.out x hx
    omega
  obtain ⟨far0, far1⟩ := hf0
  have HALL : Hid (onB far xs xs.length = true) := hide (onB_all HFR.out)
  clear hqx hqy HQX HQY HFR HRO a0 a1 a2 hl8 qx0 qx1 qy0 qy1 px0 px1 py0 py1 sc0 sc1
  go_wp2_with fail
  go_loopw [20, 21] (fun ov iv wr => ∃ (i : Nat) (o : Bool), i ≤ l ∧ ov = .bool o ∧ iv = .int .i64 (i : Int) ∧ Hid (o = onB far xs i) ∧ IsX w8 wr) (fun _ iv _ => l - (intOf iv).toNat)
  case atStart => exact ⟨0, false, Nat.zero_le _, rfl, rfl, hide rfl, IsX.refl _⟩
  case round =>
    obtain ⟨i, o, hi, rfl, rfl, HON, p, rfl⟩ := hrel
    by_cases hil : i < l
    · have hix : i < xs.length := HLN.out ▸ hil
      have hile : (i : Int) < (l : Int) := by omega
      have HX9 := hide (HX8.out.trans ⟨p, rfl⟩)
      obtain ⟨b, off, e0, hb, c0, c1', c2, c3, c4⟩ := RingD.rd (HRX.out (xt w8 p) HX9.out) (show xs[i]? = some xs[i] from List.getElem?_eq_getElem _)
      subst e0
      have hm := List.getElem_mem hix
      have HSU := hide (onB_succ (far := far) hix)
      have hwx := HWF.out _ hm
      have hrk := rings_ok HV.out _ hm
      have hok := okB_of HV.out hm
      obtain ⟨r1, r2, r3⟩ := ring_round hok
      generalize xs[i] = x at *
      have HTX := hide (fun V (hV : IsX (xt w8 p) V) => i_RingText x V hwx (HE.out.x ((HX1.out.trans HX9.out).trans hV)))
      have HRR := hide (fun V (hV : IsX (xt w8 p) V) => i_ReadRing (textRingZ x) V (by omega) (HE.out.x ((HX1.out.trans HX9.out).trans hV)))
      simp only [r2, r3, ringW] at HRR
      have hR0 : 500 ≤ x.Radius ∧ x.Radius ≤ 30000 := ⟨hrk.1, hrk.2.1⟩
      obtain ⟨hR1, hR2⟩ := hR0
      generalize textRingZ x = tx at HTX HRR
      clear r1 r2 r3 hok hrk hwx hm
      go_wp2_with fail
      refine (HTX.out _ (IsX.refl _)).mono ?_
      rintro e w10 ⟨rfl, hx2⟩
      have HY2 := hide hx2
      clear hx2 HTX
      go_wp2_with fail
      refine (HRR.out _ HY2.out).mono ?_
      rintro e w11 ⟨rfl, hx3⟩
      have hX3 := (HY2.out.trans hx3).alloc (.cells #[.int .i64 x.Radius, .int .i64 x.Count, .int .i64 x.From, .int .i64 x.Step, .int .i64 x.Price] 42)
      have B3 := Blk.new w11 42 #[.int .i64 x.Radius, .int .i64 x.Count, .int .i64 x.From, .int .i64 x.Step, .int .i64 x.Price]
      go_wp2_with fail
      obtain ⟨b3, hb3⟩ : ∃ b, b = w11.heap.size := ⟨_, rfl⟩
      rw [← hb3] at B3 ⊢
      clear hb3
      generalize w11.alloc (.cells #[.int .i64 x.Radius, .int .i64 x.Count, .int .i64 x.From, .int .i64 x.Step, .int .i64 x.Price] 42) = W3 at *
      replace c0 := keep hX3 hb c0
      replace c1' := keep hX3 hb c1'
      replace c2 := keep hX3 hb c2
      replace c3 := keep hX3 hb c3
      replace c4 := keep hX3 hb c4
      replace hb := Nat.lt_of_lt_of_le hb hX3.size
      have a0 := B3.cell 0
      have a1 := B3.cell 1
      have a2 := B3.cell 2
      have a3 := B3.cell 3
      have a4 := B3.cell 4
      simp at a0 a1 a2 a3 a4
      have hl3 := B3.lt
      have HX3 := hide hX3
      clear hX3 B3 hx3 HRR HY2
      refine wp_region_x (by kernel_rfl) (by kernel_rfl) ?_
      repeat (go_big_quiet_step (fail))
      refine wpQuiet_nil ?_
      rintro _ ⟨q, rfl⟩
      have hxq : IsX W3 (xt W3 q) := ⟨q, rfl⟩
      replace c0 := keep hxq hb c0
      replace hb := Nat.lt_of_lt_of_le hb hxq.size
      have HX4 := hide (IsX.trans ⟨p, rfl⟩ (HX3.out.trans hxq))
      clear c1' c2 c3 c4 a0 a1 a2 a3 a4 hl3 hxq HX3
      cases o
      · go_wp2_with (go_at_call 17; refine (c_r8Abs (far - x.Radius) _ (by omega)).mono ?_; rintro e w' ⟨rfl, rfl⟩)
        go_roundw
        case rel => exact ⟨i + 1, _, by omega, rfl, by go_num, hide (by rw [HSU.out, ← HON.out]; rfl), HX4.out⟩
        case measure => simp [intOf]; omega
      · go_wp2_with fail
        go_roundw
        case rel => exact ⟨i + 1, true, by omega, rfl, by go_num, hide (by rw [HSU.out, ← HON.out]; rfl), HX4.out⟩
        case measure => simp [intOf]; omega
    · obtain rfl : i = l := by omega
      have ho : o = true := by rw [HON.out, HLN.out]; exact HALL.out
      subst ho
      go_wp2_with fail
      go_ret
      exact ⟨rfl, (HX1.out.trans HX8.out).trans ⟨p, rfl⟩⟩
end Go.Proofs.YtfcfgkkkepifhaaGreatDoor
