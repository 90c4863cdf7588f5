/- The law FnFreeTimes: the walk through the law's own text. Conditions: those of the row's arguments; the tables and the library's variables as the program's text lays them. -/
import Derived.Test.YtmipphgekcdaoaaGreatDoorTimesFns
import Derived.Test.YtmipphgekcdaoaaGreatDoorDrawTimes
import Derived.Test.YtmipphgekcdaoaaGreatDoorAddFnLaw
import Derived.Test.YtmipphgekcdaoaaGreatDoorAddAll
import Derived.Test.YtmipphgekcdaoaaGreatDoorSameOffersFns
import Derived.Test.YtmipphgekcdaoaaGreatDoorReadOfferI
import Derived.Test.YtmipphgekcdaoaaGreatDoorOfferRound
namespace Go.Proofs.YtmipphgekcdaoaaGreatDoor
set_option linter.unusedVariables false
open Go.RowKit

theorem eqB_refl (x : OfferD) : x.eqB x = true := by simp [OfferD.eqB]
theorem same_self (xs : List OfferD) : sameB OfferD.eqB xs xs = true := same_all rfl (fun i h _ => eqB_refl _)
theorem times_zero {xs : List OfferD} {ps : List Int} {op en : Int} (h : timesC xs ps op en = 0) : askB xs ps = 0 ∧ timeB op en = true := by
  unfold timesC at h
  split at h
  · rename_i h1
    split at h
    · rename_i h2; exact ⟨h1, h2⟩
    · omega
  · rename_i h1; exact absurd h h1
set_option maxHeartbeats 12800000 in
set_option maxRecDepth 100000 in
theorem law_FnFreeTimes (A : Option Addr) (c : Nat) (bs : List Int) (B : Option Addr) (c' : Nat) (ms : List Int) (w : World) (hn : bs.length ≤ maxLen) (hb : ∀ x ∈ bs, byteWf x) (hA : Rd byteC 1 w A bs) (hn' : ms.length ≤ maxLen) (hb' : ∀ x ∈ ms, byteWf x) (hB : Rd byteC 1 w B ms) (he : EnvOk w) :
    Calls Tryz.prog 3 #[.slice A bs.length c, .slice B ms.length c'] w fun e w' => e = .returned (.bool true) ∧ IsX w w' := by
  by_cases hl1 : 1048576 < bs.length
  · have HL := hide (cb (c_b10Long A bs.length c w) (decide_eq_true (show (bs.length : Int) > 1048576 by omega)))
    generalize bs.length = n at HL ⊢
    generalize ms.length = n' at *
    clear hl1 hn hn' hb hb' hA hB he
    go_enter Tryz.func3, Tryz.ntmps3
    go_wp2_with fail
    refine HL.out.mono ?_
    rintro e w' ⟨rfl, rfl⟩
    go_wp2_with fail
    go_ret
    exact ⟨rfl, IsX.refl _⟩
  have HL1 := hide (cb (c_b10Long A bs.length c w) (decide_eq_false (show ¬ (bs.length : Int) > 1048576 by omega)))
  by_cases hl2 : 1048576 < ms.length
  · have HL := hide (cb (c_b10Long B ms.length c' w) (decide_eq_true (show (ms.length : Int) > 1048576 by omega)))
    generalize bs.length = n at HL1 ⊢
    generalize ms.length = n' at HL ⊢
    clear hl1 hl2 hn hn' hb hb' hA hB he
    go_enter Tryz.func3, Tryz.ntmps3
    go_wp2_with fail
    refine HL1.out.mono ?_
    rintro e w' ⟨rfl, rfl⟩
    go_wp2_with fail
    refine HL.out.mono ?_
    rintro e w' ⟨rfl, rfl⟩
    go_wp2_with fail
    go_ret
    exact ⟨rfl, IsX.refl _⟩
  have HL2 := hide (cb (c_b10Long B ms.length c' w) (decide_eq_false (show ¬ (ms.length : Int) > 1048576 by omega)))
  have HD1 := hide (c_DrawFreeTimes A c bs w (by omega) hb hA)
  have HD2 := hide (fun V (hV : IsX w V) => c_DrawAddOffer B c' ms V (by omega) hb' (hB.x hV))
  generalize bs.length = bl at HL1 HD1 ⊢
  generalize ms.length = ml at HL2 HD2 ⊢
  have HE := hide he
  clear hl1 hl2 hn hn' hb hb' hA hB he
  go_enter Tryz.func3, Tryz.ntmps3
  go_wp2_with fail
  refine HL1.out.mono ?_
  rintro e w' ⟨rfl, rfl⟩
  go_wp2_with fail
  refine HL2.out.mono ?_
  rintro e w' ⟨rfl, rfl⟩
  clear HL1 HL2
  go_wp2_with fail
  refine HD1.out.mono ?_
  rintro e w1 ⟨A1, c1, xs, A2, c2, ps, op, en, rfl, hxl, hwf, hpl, hpw, ⟨hop0, hop1⟩, ⟨hen0, hen1⟩, hRx, hRp, hx⟩
  have HX1 := hide hx
  have HRX : Hid (∀ V, IsX w1 V → Rd OfferD.cells 5 V A1 xs) := hide (fun V hV => hRx.x hV)
  have HRP : Hid (∀ V, IsX w1 V → Rd intC 1 V A2 ps) := hide (fun V hV => hRp.x hV)
  have HFT := hide (i_FreeTimes A1 c1 xs A2 c2 ps op en w1 (by omega) hwf hRx (by omega) hpw hRp (by unfold intWf; omega) (by unfold intWf; omega))
  have HRI := hide (fun (hr : risesB ps 0 ((xs.length : Int) - 1) = true) V (hV : IsX w1 V) => c_b10Rises A2 c2 ps (xs.length : Int) V (by omega) (by omega) hr (HRP.out V hV))
  obtain ⟨l, hll⟩ : ∃ l, l = xs.length := ⟨_, rfl⟩
  have HLN := hide hll
  obtain ⟨q, hqq⟩ : ∃ q, q = ps.length := ⟨_, rfl⟩
  have HQN := hide hqq
  rw [← hll] at hxl HFT HRI ⊢
  rw [← hqq] at hpl HFT HRI ⊢
  clear hx hRx hRp hwf hpw hll hqq HD1
  go_wp2_with fail
  refine HFT.out.mono ?_
  rintro e w2 ⟨A3, c3, gs, rfl, hPR, hx⟩
  have HX2 := hide hx
  have hzl := timesZ_len xs ps op en
  clear hx HFT
  by_cases hk : timesC xs ps op en = 0
  case neg =>
    have g0 : (timesC xs ps op en == 0) = false := by simpa using hk
    have HXW := hide (HX1.out.trans HX2.out)
    generalize timesC xs ps op en = tc at *
    generalize (timesZ xs ps op en).length = tz at *
    clear hPR HRX HRP HRI HLN HQN hk
    go_wp2_with fail
    refine (HD2.out _ HXW.out).mono ?_
    rintro e w5 ⟨A5, c5, ys, x, rfl, hyl, hyw, hxw, hRy, hx⟩
    have HX5 := hide (HXW.out.trans hx)
    have HRY : Hid (∀ V, IsX w5 V → Rd OfferD.cells 5 V A5 ys) := hide (fun V hV => hRy.x hV)
    have HAD := hide (fun V (hV : IsX w5 V) => i_AddOffer A5 c5 ys x V (by omega) hyw (HRY.out V hV) hxw)
    have HYW := hide hyw
    have HXF := hide hxw
    have HYL := hide hyl
    have hX6 : IsX w5 (w5.alloc (.cells #[.string x.Id, .string x.Kind, .int .i64 x.Start, .int .i64 x.Length, .int .i64 x.Worth] 33)) := (IsX.refl w5).alloc _
    have hB6 : Blk (w5.alloc (.cells #[.string x.Id, .string x.Kind, .int .i64 x.Start, .int .i64 x.Length, .int .i64 x.Worth] 33)) w5.heap.size 33 #[.string x.Id, .string x.Kind, .int .i64 x.Start, .int .i64 x.Length, .int .i64 x.Worth] := Blk.new _ _ _
    clear hyw hxw hRy hx HD2
    obtain ⟨yl, hyl2⟩ : ∃ l, l = ys.length := ⟨_, rfl⟩
    have HYN := hide hyl2
    rw [← hyl2] at hyl HAD ⊢
    clear hyl2
    simp only [offerV]
    go_upto_region 33 with fail
    obtain ⟨b6, hb6⟩ : ∃ b, b = w5.heap.size := ⟨_, rfl⟩
    rw [← hb6] at hB6 ⊢
    clear hb6
    generalize w5.alloc (.cells #[.string x.Id, .string x.Kind, .int .i64 x.Start, .int .i64 x.Length, .int .i64 x.Worth] 33) = W6 at *
    have HX6 := hide hX6
    have hlb := hB6.lt
    have a0 := hB6.cell 0
    have a1 := hB6.cell 1
    have a2 := hB6.cell 2
    have a3 := hB6.cell 3
    have a4 := hB6.cell 4
    simp at a0 a1 a2 a3 a4
    clear hX6 hB6
    go_wp2_with fail
    refine (HAD.out _ HX6.out).mono ?_
    rintro e w7 ⟨A7, c7, rfl, hO7, hx7⟩
    by_cases ha : addC ys x = 0
    case neg =>
      rw [add_none ha]
      have g1 : (addC ys x != 0) = true := by rw [bne_iff_ne]; exact ha
      generalize addC ys x = ac at *
      simp only [List.length_nil]
      clear hO7 HAD a0 a1 a2 a3 a4
      go_wp2_with fail
      go_ret
      exact ⟨rfl, HX5.out.trans (HX6.out.trans hx7)⟩
    obtain ⟨z1, z2, z3, z4, z5, z6⟩ := add_drop ha
    rw [ha]
    rw [z1] at hO7 ⊢
    have hal := addAll_len (xs := ys) (x := x)
    rw [← HYN.out] at hal
    have HR7 : Hid (∀ V, IsX w7 V → Rd OfferD.cells 5 V A7 (addAll ys x)) := hide (fun V hV => (Own.rd (cells := OfferD.cells) (k := 5) (by omega) OfferD.cells_len hO7 rfl).x hV)
    have hw7 : ∀ y ∈ addAll ys x, y.wf := fun y hy => by
      simp only [addAll, List.mem_append, List.mem_singleton] at hy
      rcases hy with (hy | rfl) | hy
      · exact HYW.out y (List.mem_of_mem_take hy)
      · exact HXF.out
      · exact HYW.out y (List.mem_of_mem_drop hy)
    have hid : x.Id.size ≤ 1048576 := by
      have := z5
      simp only [OfferD.okB, Bool.and_eq_true] at this
      have := name_size this.1.1.1.1
      omega
    have HDR := hide (fun V (hV : IsX w7 V) => i_DropOffer A7 c7 (addAll ys x) x.Id V (by omega) hw7 (HR7.out V hV) hid)
    have HVO := hide (fun V (hV : IsX w7 V) => cb (c_specValidOffers A7 c7 (addAll ys x) V (by omega) hw7 (HR7.out V hV)) z2)
    rw [z3, z4] at HDR
    rw [hal] at HDR HVO ⊢
    obtain ⟨r1, r2, r3⟩ := offer_round z5
    have HTX := hide (fun V (hV : IsX w5 V) => i_OfferText x V HXF.out (HE.out.x (HX5.out.trans hV)))
    have HRO := hide (fun V (hV : IsX w5 V) => i_ReadOffer (textOfferZ x) V (by omega) (HE.out.x (HX5.out.trans hV)))
    simp only [r2, r3, offerW] at HRO
    generalize textOfferZ x = tx at HTX HRO
    have HX7 := hide (HX6.out.trans hx7)
    replace a0 := keep hx7 hlb a0
    replace a1 := keep hx7 hlb a1
    replace a2 := keep hx7 hlb a2
    replace a3 := keep hx7 hlb a3
    replace a4 := keep hx7 hlb a4
    replace hlb := Nat.lt_of_lt_of_le hlb hx7.size
    clear z1 z2 z3 z4 z5 z6 r1 r2 r3 hO7 hw7 hid hx7 HAD ha
    go_wp2_with fail
    refine (HDR.out _ (IsX.refl _)).mono ?_
    rintro e w8 ⟨A8, c8, rfl, hO8, hx8⟩
    have HR8 : Hid (∀ V, IsX w8 V → Rd OfferD.cells 5 V A8 ys) := hide (fun V hV => (Own.rd (cells := OfferD.cells) (k := 5) (by omega) OfferD.cells_len hO8 rfl).x hV)
    have HS8 := hide hx8
    have HX8 := hide (HX7.out.trans hx8)
    rw [← HYN.out]
    replace a0 := keep hx8 hlb a0
    replace a1 := keep hx8 hlb a1
    replace a2 := keep hx8 hlb a2
    replace a3 := keep hx8 hlb a3
    replace a4 := keep hx8 hlb a4
    replace hlb := Nat.lt_of_lt_of_le hlb hx8.size
    clear hO8 hx8 HDR
    go_wp2_with fail
    refine (HTX.out _ HX8.out).mono ?_
    rintro e w9 ⟨rfl, hx9⟩
    have HX9 := hide (HX8.out.trans hx9)
    have HS9 := hide hx9
    replace a0 := keep hx9 hlb a0
    replace a1 := keep hx9 hlb a1
    replace a2 := keep hx9 hlb a2
    replace a3 := keep hx9 hlb a3
    replace a4 := keep hx9 hlb a4
    replace hlb := Nat.lt_of_lt_of_le hlb hx9.size
    clear hx9 HTX
    go_wp2_with fail
    refine (HRO.out _ HX9.out).mono ?_
    rintro e w10 ⟨rfl, hx10⟩
    have hX11 := (hx10.alloc (.cells #[.string x.Id, .string x.Kind, .int .i64 x.Start, .int .i64 x.Length, .int .i64 x.Worth] 33))
    have hB11 := Blk.new w10 33 #[.string x.Id, .string x.Kind, .int .i64 x.Start, .int .i64 x.Length, .int .i64 x.Worth]
    replace a0 := keep hX11 hlb a0
    replace a1 := keep hX11 hlb a1
    replace a2 := keep hX11 hlb a2
    replace a3 := keep hX11 hlb a3
    replace a4 := keep hX11 hlb a4
    replace hlb := Nat.lt_of_lt_of_le hlb hX11.size
    go_wp2_with fail
    obtain ⟨b11, hb11⟩ : ∃ b, b = w10.heap.size := ⟨_, rfl⟩
    rw [← hb11] at hB11 ⊢
    clear hb11
    generalize w10.alloc (.cells #[.string x.Id, .string x.Kind, .int .i64 x.Start, .int .i64 x.Length, .int .i64 x.Worth] 33) = W11 at *
    have HS11 := hide (HS9.out.trans hX11)
    have HX11 := hide (HX9.out.trans hX11)
    have hlf := hB11.lt
    have f0 := hB11.cell 0
    have f1 := hB11.cell 1
    have f2 := hB11.cell 2
    have f3 := hB11.cell 3
    have f4 := hB11.cell 4
    simp at f0 f1 f2 f3 f4
    clear hx10 hX11 hB11 HRO HS9
    refine (HVO.out _ (HS8.out.trans HS11.out)).mono ?_
    rintro e w12 ⟨rfl, hx12⟩
    have HX12 := hide (HX11.out.trans hx12)
    have HS12 := hide (HS11.out.trans hx12)
    replace a0 := keep hx12 hlb a0
    replace a1 := keep hx12 hlb a1
    replace a2 := keep hx12 hlb a2
    replace a3 := keep hx12 hlb a3
    replace a4 := keep hx12 hlb a4
    replace hlb := Nat.lt_of_lt_of_le hlb hx12.size
    replace f0 := keep hx12 hlf f0
    replace f1 := keep hx12 hlf f1
    replace f2 := keep hx12 hlf f2
    replace f3 := keep hx12 hlf f3
    replace f4 := keep hx12 hlf f4
    replace hlf := Nat.lt_of_lt_of_le hlf hx12.size
    have HSO := hide (cb (c_SameOffers A8 c8 ys A5 c5 ys w12 (by have := HYL.out; omega) HYW.out (HR8.out _ HS12.out) (by have := HYL.out; omega) HYW.out (HRY.out _ HX12.out)) (same_self ys))
    rw [← HYN.out] at HSO
    clear hx12 HVO
    go_wp2_with fail
    refine HSO.out.mono ?_
    rintro e w13 ⟨rfl, hx13⟩
    have HX13 := hide (HX12.out.trans hx13)
    replace a0 := keep hx13 hlb a0
    replace a1 := keep hx13 hlb a1
    replace a2 := keep hx13 hlb a2
    replace a3 := keep hx13 hlb a3
    replace a4 := keep hx13 hlb a4
    replace hlb := Nat.lt_of_lt_of_le hlb hx13.size
    replace f0 := keep hx13 hlf f0
    replace f1 := keep hx13 hlf f1
    replace f2 := keep hx13 hlf f2
    replace f3 := keep hx13 hlf f3
    replace f4 := keep hx13 hlf f4
    replace hlf := Nat.lt_of_lt_of_le hlf hx13.size
    clear hx13 HSO
    go_wp2_with fail
    go_ret
    exact ⟨by first | rfl | simp, HX5.out.trans HX13.out⟩
  obtain ⟨hask, htb⟩ := times_zero hk
  obtain ⟨hfp, hfe, hfc⟩ := free_ok hask htb
  have htb' : 0 ≤ op ∧ op < en ∧ en ≤ 1440 := of_decide_eq_true htb
  obtain ⟨t1, t2, t3⟩ := htb'
  have HMEM := hide (ask_few hask).2.2
  have HSL := hide (offers_ok (ask_zero' hask).1)
  have HRI2 := hide (HRI.out (by rw [HLN.out]; exact (ask_zero' hask).2) w2 HX2.out)
  rw [hk]
  generalize timesZ xs ps op en = Z at *
  have HPR := hide hPR
  have HFP := hide hfp
  have HFE := hide hfe
  have HFC := hide hfc
  obtain ⟨z, hzz⟩ : ∃ z, z = Z.length := ⟨_, rfl⟩
  have HZN := hide hzz
  rw [← hzz] at hzl ⊢
  clear hask htb hk hfp hfe hfc hPR HRI hzz
  go_wp2_with fail
  refine HRI2.out.mono ?_
  rintro e w3 ⟨rfl, hx⟩
  have HX3 := hide (HX2.out.trans hx)
  have HP3 := hide (HPR.out.x hx)
  clear hx HRI2 HPR
  go_wp2_with fail
  go_loopw [11, 12] (fun av iv wr => ∃ i : Nat, i ≤ z ∧ av = .int .i64 (endTo op Z i) ∧ iv = .int .i64 (i : Int) ∧ IsX w3 wr) (fun _ iv _ => z - (intOf iv).toNat)
  case atStart => exact ⟨0, Nat.zero_le _, rfl, rfl, IsX.refl _⟩
  case round =>
    obtain ⟨i, hi, rfl, rfl, p, rfl⟩ := hrel
    by_cases hil : i < z
    · have hix : i < Z.length := HZN.out ▸ hil
      have hP := HP3.out.x (w' := xt w3 p) ⟨p, rfl⟩
      have hig : i < gs.length := by rw [hP.len]; exact hix
      obtain ⟨g0, e0, hg0, cz⟩ := hP.cell i hig
      have hBk := hP.blk i hix hig
      subst e0
      obtain ⟨en1, en2⟩ := endTo_le hix HFP.out HFE.out
      obtain ⟨ee0, ee1, ee2⟩ := HFE.out _ (List.getElem_mem hix)
      have HES := hide (endTo_succ (op := op) hix)
      generalize endTo op Z i = ai at *
      generalize gs[i] = g at *
      generalize Z[i] = zi at *
      obtain ⟨x0, x1⟩ := zi
      simp only at en1 en2 ee0 ee1 ee2
      have d0 := hBk.cell 0
      have d1 := hBk.cell 1
      simp [pairC] at d0 d1
      have hlk := hBk.lt
      simp only [pairV] at cz
      have gA : decide (x0 < ai) = false := decide_eq_false (by omega)
      have gB : decide (x1 ≤ x0) = false := decide_eq_false (by omega)
      have gC : decide (x1 > en) = false := decide_eq_false (by omega)
      clear hP hBk hig
      cases i with
      | zero =>
        rw [show (((0 : Nat) : Int)) = 0 from rfl]
        have gD : decide ((0 : Int) > 0) = false := rfl
        go_wp2_with fail
        refine wp_region_x (by kernel_rfl) (by kernel_rfl) ?_
        repeat (go_big_quiet_step (fail))
        refine wpQuiet_nil ?_
        rintro _ ⟨q2, rfl⟩
        replace d1 := keep (w' := xt (xt w3 p) q2) ⟨q2, rfl⟩ hlk d1
        replace hlk := Nat.lt_of_lt_of_le hlk (IsX.size (w' := xt (xt w3 p) q2) ⟨q2, rfl⟩)
        go_wp2_with fail
        go_roundw
        case rel => exact ⟨1, by omega, congrArg (Value.int .i64) HES.out.symm, by go_num, IsX.xt ⟨p, rfl⟩ q2⟩
        case measure => simp [intOf]; omega
      | succ j =>
        have gE : (x0 == ai) = false := by have := en2 (by omega); simp; omega
        rw [show (((j + 1 : Nat)) : Int) = (j : Int) + 1 from rfl]
        have gD : decide ((j : Int) + 1 > 0) = true := decide_eq_true (by omega)
        go_wp2_with fail
        refine wp_region_x (by kernel_rfl) (by kernel_rfl) ?_
        repeat (go_big_quiet_step (fail))
        refine wpQuiet_nil ?_
        rintro _ ⟨q2, rfl⟩
        replace d1 := keep (w' := xt (xt w3 p) q2) ⟨q2, rfl⟩ hlk d1
        replace hlk := Nat.lt_of_lt_of_le hlk (IsX.size (w' := xt (xt w3 p) q2) ⟨q2, rfl⟩)
        go_wp2_with fail
        go_roundw
        case rel => exact ⟨j + 1 + 1, by omega, congrArg (Value.int .i64) HES.out.symm, by go_num, IsX.xt ⟨p, rfl⟩ q2⟩
        case measure => simp [intOf]; omega
    · obtain rfl : i = z := by omega
      have HX4 := hide (HX3.out.trans ⟨p, rfl⟩)
      have HP4 := hide (HP3.out.x (w' := xt w3 p) ⟨p, rfl⟩)
      generalize endTo op Z i = ai
      generalize xt w3 p = W4 at *
      clear HX3 HP3 HFP HFE
      go_wp2_with fail
      go_loopw [14] (fun mv wr => ∃ m : Int, op ≤ m ∧ m ≤ en + 5 ∧ mv = .int .i64 m ∧ IsX W4 wr) (fun mv _ => (en - intOf mv).toNat)
      case atStart => exact ⟨op, Int.le_refl _, by omega, rfl, IsX.refl _⟩
      case round =>
        obtain ⟨m, hm0, hm1, rfl, p, rfl⟩ := hrel
        by_cases hme : m < en
        · have HBI := hide (busy_in (HFC.out m hm0 hme))
          go_wp2_with fail
          go_loopw [15, 16] (fun bv iv wr => ∃ (k : Nat) (b : Bool), k ≤ q ∧ bv = .bool b ∧ iv = .int .i64 (k : Int) ∧ Hid (b = busyTo xs ps m k) ∧ IsX W4 wr) (fun _ iv _ => q - (intOf iv).toNat)
          case atStart => exact ⟨0, false, Nat.zero_le _, rfl, rfl, hide rfl, ⟨p, rfl⟩⟩
          case round =>
            obtain ⟨k, b, hk, rfl, rfl, HBT, p, rfl⟩ := hrel
            by_cases hkq : k < q
            · have hkx : k < ps.length := HQN.out ▸ hkq
              obtain ⟨b7, o7, e7, hb7, cq⟩ := int_rd (HRP.out (xt W4 p) (HX4.out.trans ⟨p, rfl⟩)) (show ps[k]? = some ps[k] from List.getElem?_eq_getElem _)
              subst e7
              obtain ⟨v0, v1⟩ := HMEM.out _ (List.getElem_mem hkx)
              have HSU := hide (busyTo_succ (xs := xs) (m := m) hkx)
              obtain ⟨j, hj⟩ := Int.eq_ofNat_of_zero_le v0
              have hjx : j < xs.length := by omega
              have hjl : j < l := by have := HLN.out; omega
              rw [startAt_at hj hjx, lenAt_at hj hjx] at HSU
              rw [hj] at cq
              obtain ⟨bo, oo, eo, hbo, d0, d1, d2, d3, d4⟩ := OfferD.rd (HRX.out (xt W4 p) (HX4.out.trans ⟨p, rfl⟩)) (show xs[j]? = some xs[j] from List.getElem?_eq_getElem _)
              subst eo
              obtain ⟨_, _, s0, s1, s2, s3, _, _⟩ := HSL.out _ (List.getElem_mem hjx)
              generalize xs[j] = s at *
              clear hj v0 v1
              cases b
              · by_cases q1 : s.Start ≤ m
                · have g1 : decide (m ≥ s.Start) = true := decide_eq_true q1
                  have HR2 := hide (show busyTo xs ps m (k + 1) = decide (m < s.Start + s.Length) by rw [HSU.out, ← HBT.out, decide_eq_true q1]; rfl)
                  have HXA : Hid (IsX W4 ((xt W4 p).alloc (.cells #[.string s.Id, .string s.Kind, .int .i64 s.Start, .int .i64 s.Length, .int .i64 s.Worth] 33))) := hide (IsX.alloc ⟨p, rfl⟩ _)
                  go_wp2_with fail
                  go_roundw
                  case rel => exact ⟨k + 1, _, by omega, rfl, by go_num, hide HR2.out.symm, HXA.out⟩
                  case measure => simp [intOf]; omega
                · have g1 : decide (m ≥ s.Start) = false := decide_eq_false q1
                  have HR2 := hide (show busyTo xs ps m (k + 1) = false by rw [HSU.out, ← HBT.out, decide_eq_false q1]; rfl)
                  have HXA : Hid (IsX W4 ((xt W4 p).alloc (.cells #[.string s.Id, .string s.Kind, .int .i64 s.Start, .int .i64 s.Length, .int .i64 s.Worth] 33))) := hide (IsX.alloc ⟨p, rfl⟩ _)
                  go_wp2_with fail
                  go_roundw
                  case rel => exact ⟨k + 1, _, by omega, rfl, by go_num, hide HR2.out.symm, HXA.out⟩
                  case measure => simp [intOf]; omega
              · have HR2 := hide (show busyTo xs ps m (k + 1) = true by rw [HSU.out, ← HBT.out]; rfl)
                have HXA : Hid (IsX W4 ((xt W4 p).alloc (.cells #[.string s.Id, .string s.Kind, .int .i64 s.Start, .int .i64 s.Length, .int .i64 s.Worth] 33))) := hide (IsX.alloc ⟨p, rfl⟩ _)
                go_wp2_with fail
                go_roundw
                case rel => exact ⟨k + 1, _, by omega, rfl, by go_num, hide HR2.out.symm, HXA.out⟩
                case measure => simp [intOf]; omega
            · have hkq2 : k = q := by omega
              subst hkq2
              have HB1 := hide (show b = busyTo xs ps m ps.length by rw [← HQN.out]; exact HBT.out)
              clear HBT
              go_wp2_with fail
              go_loopw [18, 19] (fun nv iv wr => ∃ (t : Nat) (f : Bool), t ≤ i ∧ nv = .bool f ∧ iv = .int .i64 (t : Int) ∧ Hid (f = inTo Z m t) ∧ IsX W4 wr) (fun _ iv _ => i - (intOf iv).toNat)
              case atStart => exact ⟨0, false, Nat.zero_le _, rfl, rfl, hide rfl, ⟨p, rfl⟩⟩
              case round =>
                obtain ⟨t, f, ht, rfl, rfl, HFT, p, rfl⟩ := hrel
                by_cases hti : t < i
                · have htx : t < Z.length := HZN.out ▸ hti
                  have hP := HP4.out.x (w' := xt W4 p) ⟨p, rfl⟩
                  have htg : t < gs.length := by rw [hP.len]; exact htx
                  obtain ⟨g0, e0, hg0, cz⟩ := hP.cell t htg
                  have hBk := hP.blk t htx htg
                  subst e0
                  have HSU := hide (inTo_succ (m := m) htx)
                  generalize gs[t] = g at *
                  generalize Z[t] = zi at *
                  obtain ⟨x0, x1⟩ := zi
                  have d0 := hBk.cell 0
                  have d1 := hBk.cell 1
                  simp [pairC] at d0 d1
                  have hlk := hBk.lt
                  simp only [pairV] at cz
                  clear hP hBk htg
                  cases f
                  · by_cases q1 : x0 ≤ m
                    · have g1 : decide (m ≥ x0) = true := decide_eq_true q1
                      have HR2 := hide (show inTo Z m (t + 1) = decide (m < x1) by rw [HSU.out, ← HFT.out]; simp only [decide_eq_true q1]; rfl)
                      go_wp2_with fail
                      go_roundw
                      case rel => exact ⟨t + 1, _, by omega, rfl, by go_num, hide HR2.out.symm, ⟨p, rfl⟩⟩
                      case measure => simp [intOf]; omega
                    · have g1 : decide (m ≥ x0) = false := decide_eq_false q1
                      have HR2 := hide (show inTo Z m (t + 1) = false by rw [HSU.out, ← HFT.out]; simp only [decide_eq_false q1]; rfl)
                      go_wp2_with fail
                      go_roundw
                      case rel => exact ⟨t + 1, _, by omega, rfl, by go_num, hide HR2.out.symm, ⟨p, rfl⟩⟩
                      case measure => simp [intOf]; omega
                  · have HR2 := hide (show inTo Z m (t + 1) = true by rw [HSU.out, ← HFT.out]; rfl)
                    go_wp2_with fail
                    go_roundw
                    case rel => exact ⟨t + 1, _, by omega, rfl, by go_num, hide HR2.out.symm, ⟨p, rfl⟩⟩
                    case measure => simp [intOf]; omega
                · have hti2 : t = i := by omega
                  subst hti2
                  have gbf : (b == f) = false := by
                    have h1 := HBI.out
                    rw [← HB1.out, ← HZN.out, ← HFT.out] at h1
                    exact h1
                  go_wp2_with fail
                  go_roundw
                  case rel => exact ⟨m + 5, by omega, by omega, rfl, ⟨p, rfl⟩⟩
                  case measure => simp [intOf]; omega
        · have HXW := hide ((HX1.out.trans HX4.out).trans ⟨p, rfl⟩)
          clear HP4 HFC HMEM HSL HRX HRP HLN HQN HZN HX4
          go_wp2_with fail
          refine (HD2.out _ HXW.out).mono ?_
          rintro e w5 ⟨A5, c5, ys, x, rfl, hyl, hyw, hxw, hRy, hx⟩
          have HX5 := hide (HXW.out.trans hx)
          have HRY : Hid (∀ V, IsX w5 V → Rd OfferD.cells 5 V A5 ys) := hide (fun V hV => hRy.x hV)
          have HAD := hide (fun V (hV : IsX w5 V) => i_AddOffer A5 c5 ys x V (by omega) hyw (HRY.out V hV) hxw)
          have HYW := hide hyw
          have HXF := hide hxw
          have HYL := hide hyl
          have hX6 : IsX w5 (w5.alloc (.cells #[.string x.Id, .string x.Kind, .int .i64 x.Start, .int .i64 x.Length, .int .i64 x.Worth] 33)) := (IsX.refl w5).alloc _
          have hB6 : Blk (w5.alloc (.cells #[.string x.Id, .string x.Kind, .int .i64 x.Start, .int .i64 x.Length, .int .i64 x.Worth] 33)) w5.heap.size 33 #[.string x.Id, .string x.Kind, .int .i64 x.Start, .int .i64 x.Length, .int .i64 x.Worth] := Blk.new _ _ _
          clear hyw hxw hRy hx HD2
          obtain ⟨yl, hyl2⟩ : ∃ l, l = ys.length := ⟨_, rfl⟩
          have HYN := hide hyl2
          rw [← hyl2] at hyl HAD ⊢
          clear hyl2
          simp only [offerV]
          go_upto_region 33 with fail
          obtain ⟨b6, hb6⟩ : ∃ b, b = w5.heap.size := ⟨_, rfl⟩
          rw [← hb6] at hB6 ⊢
          clear hb6
          generalize w5.alloc (.cells #[.string x.Id, .string x.Kind, .int .i64 x.Start, .int .i64 x.Length, .int .i64 x.Worth] 33) = W6 at *
          have HX6 := hide hX6
          have hlb := hB6.lt
          have a0 := hB6.cell 0
          have a1 := hB6.cell 1
          have a2 := hB6.cell 2
          have a3 := hB6.cell 3
          have a4 := hB6.cell 4
          simp at a0 a1 a2 a3 a4
          clear hX6 hB6
          go_wp2_with fail
          refine (HAD.out _ HX6.out).mono ?_
          rintro e w7 ⟨A7, c7, rfl, hO7, hx7⟩
          by_cases ha : addC ys x = 0
          case neg =>
            rw [add_none ha]
            have g1 : (addC ys x != 0) = true := by rw [bne_iff_ne]; exact ha
            generalize addC ys x = ac at *
            simp only [List.length_nil]
            clear hO7 HAD a0 a1 a2 a3 a4
            go_wp2_with fail
            go_ret
            exact ⟨rfl, HX5.out.trans (HX6.out.trans hx7)⟩
          obtain ⟨z1, z2, z3, z4, z5, z6⟩ := add_drop ha
          rw [ha]
          rw [z1] at hO7 ⊢
          have hal := addAll_len (xs := ys) (x := x)
          rw [← HYN.out] at hal
          have HR7 : Hid (∀ V, IsX w7 V → Rd OfferD.cells 5 V A7 (addAll ys x)) := hide (fun V hV => (Own.rd (cells := OfferD.cells) (k := 5) (by omega) OfferD.cells_len hO7 rfl).x hV)
          have hw7 : ∀ y ∈ addAll ys x, y.wf := fun y hy => by
            simp only [addAll, List.mem_append, List.mem_singleton] at hy
            rcases hy with (hy | rfl) | hy
            · exact HYW.out y (List.mem_of_mem_take hy)
            · exact HXF.out
            · exact HYW.out y (List.mem_of_mem_drop hy)
          have hid : x.Id.size ≤ 1048576 := by
            have := z5
            simp only [OfferD.okB, Bool.and_eq_true] at this
            have := name_size this.1.1.1.1
            omega
          have HDR := hide (fun V (hV : IsX w7 V) => i_DropOffer A7 c7 (addAll ys x) x.Id V (by omega) hw7 (HR7.out V hV) hid)
          have HVO := hide (fun V (hV : IsX w7 V) => cb (c_specValidOffers A7 c7 (addAll ys x) V (by omega) hw7 (HR7.out V hV)) z2)
          rw [z3, z4] at HDR
          rw [hal] at HDR HVO ⊢
          obtain ⟨r1, r2, r3⟩ := offer_round z5
          have HTX := hide (fun V (hV : IsX w5 V) => i_OfferText x V HXF.out (HE.out.x (HX5.out.trans hV)))
          have HRO := hide (fun V (hV : IsX w5 V) => i_ReadOffer (textOfferZ x) V (by omega) (HE.out.x (HX5.out.trans hV)))
          simp only [r2, r3, offerW] at HRO
          generalize textOfferZ x = tx at HTX HRO
          have HX7 := hide (HX6.out.trans hx7)
          replace a0 := keep hx7 hlb a0
          replace a1 := keep hx7 hlb a1
          replace a2 := keep hx7 hlb a2
          replace a3 := keep hx7 hlb a3
          replace a4 := keep hx7 hlb a4
          replace hlb := Nat.lt_of_lt_of_le hlb hx7.size
          clear z1 z2 z3 z4 z5 z6 r1 r2 r3 hO7 hw7 hid hx7 HAD ha
          go_wp2_with fail
          refine (HDR.out _ (IsX.refl _)).mono ?_
          rintro e w8 ⟨A8, c8, rfl, hO8, hx8⟩
          have HR8 : Hid (∀ V, IsX w8 V → Rd OfferD.cells 5 V A8 ys) := hide (fun V hV => (Own.rd (cells := OfferD.cells) (k := 5) (by omega) OfferD.cells_len hO8 rfl).x hV)
          have HS8 := hide hx8
          have HX8 := hide (HX7.out.trans hx8)
          rw [← HYN.out]
          replace a0 := keep hx8 hlb a0
          replace a1 := keep hx8 hlb a1
          replace a2 := keep hx8 hlb a2
          replace a3 := keep hx8 hlb a3
          replace a4 := keep hx8 hlb a4
          replace hlb := Nat.lt_of_lt_of_le hlb hx8.size
          clear hO8 hx8 HDR
          go_wp2_with fail
          refine (HTX.out _ HX8.out).mono ?_
          rintro e w9 ⟨rfl, hx9⟩
          have HX9 := hide (HX8.out.trans hx9)
          have HS9 := hide hx9
          replace a0 := keep hx9 hlb a0
          replace a1 := keep hx9 hlb a1
          replace a2 := keep hx9 hlb a2
          replace a3 := keep hx9 hlb a3
          replace a4 := keep hx9 hlb a4
          replace hlb := Nat.lt_of_lt_of_le hlb hx9.size
          clear hx9 HTX
          go_wp2_with fail
          refine (HRO.out _ HX9.out).mono ?_
          rintro e w10 ⟨rfl, hx10⟩
          have hX11 := (hx10.alloc (.cells #[.string x.Id, .string x.Kind, .int .i64 x.Start, .int .i64 x.Length, .int .i64 x.Worth] 33))
          have hB11 := Blk.new w10 33 #[.string x.Id, .string x.Kind, .int .i64 x.Start, .int .i64 x.Length, .int .i64 x.Worth]
          replace a0 := keep hX11 hlb a0
          replace a1 := keep hX11 hlb a1
          replace a2 := keep hX11 hlb a2
          replace a3 := keep hX11 hlb a3
          replace a4 := keep hX11 hlb a4
          replace hlb := Nat.lt_of_lt_of_le hlb hX11.size
          go_wp2_with fail
          obtain ⟨b11, hb11⟩ : ∃ b, b = w10.heap.size := ⟨_, rfl⟩
          rw [← hb11] at hB11 ⊢
          clear hb11
          generalize w10.alloc (.cells #[.string x.Id, .string x.Kind, .int .i64 x.Start, .int .i64 x.Length, .int .i64 x.Worth] 33) = W11 at *
          have HS11 := hide (HS9.out.trans hX11)
          have HX11 := hide (HX9.out.trans hX11)
          have hlf := hB11.lt
          have f0 := hB11.cell 0
          have f1 := hB11.cell 1
          have f2 := hB11.cell 2
          have f3 := hB11.cell 3
          have f4 := hB11.cell 4
          simp at f0 f1 f2 f3 f4
          clear hx10 hX11 hB11 HRO HS9
          refine (HVO.out _ (HS8.out.trans HS11.out)).mono ?_
          rintro e w12 ⟨rfl, hx12⟩
          have HX12 := hide (HX11.out.trans hx12)
          have HS12 := hide (HS11.out.trans hx12)
          replace a0 := keep hx12 hlb a0
          replace a1 := keep hx12 hlb a1
          replace a2 := keep hx12 hlb a2
          replace a3 := keep hx12 hlb a3
          replace a4 := keep hx12 hlb a4
          replace hlb := Nat.lt_of_lt_of_le hlb hx12.size
          replace f0 := keep hx12 hlf f0
          replace f1 := keep hx12 hlf f1
          replace f2 := keep hx12 hlf f2
          replace f3 := keep hx12 hlf f3
          replace f4 := keep hx12 hlf f4
          replace hlf := Nat.lt_of_lt_of_le hlf hx12.size
          have HSO := hide (cb (c_SameOffers A8 c8 ys A5 c5 ys w12 (by have := HYL.out; omega) HYW.out (HR8.out _ HS12.out) (by have := HYL.out; omega) HYW.out (HRY.out _ HX12.out)) (same_self ys))
          rw [← HYN.out] at HSO
          clear hx12 HVO
          go_wp2_with fail
          refine HSO.out.mono ?_
          rintro e w13 ⟨rfl, hx13⟩
          have HX13 := hide (HX12.out.trans hx13)
          replace a0 := keep hx13 hlb a0
          replace a1 := keep hx13 hlb a1
          replace a2 := keep hx13 hlb a2
          replace a3 := keep hx13 hlb a3
          replace a4 := keep hx13 hlb a4
          replace hlb := Nat.lt_of_lt_of_le hlb hx13.size
          replace f0 := keep hx13 hlf f0
          replace f1 := keep hx13 hlf f1
          replace f2 := keep hx13 hlf f2
          replace f3 := keep hx13 hlf f3
          replace f4 := keep hx13 hlf f4
          replace hlf := Nat.lt_of_lt_of_le hlf hx13.size
          clear hx13 HSO
          go_wp2_with fail
          go_ret
          exact ⟨by first | rfl | simp, HX5.out.trans HX13.out⟩
end Go.Proofs.YtmipphgekcdaoaaGreatDoor
