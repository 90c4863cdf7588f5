/- BestBlock of the reference. Conditions: lists no longer than 2^40. -/
import Derived.Test.YtadmpefbpklibaaDoorBestZ
namespace Go.Proofs.YtadmpefbpklibaaDoor
set_option linter.unusedVariables false
open Go.RowKit


set_option maxHeartbeats 6400000 in
set_option maxRecDepth 100000 in
theorem s_BestBlock (x : DomeD) (A0 : Option Addr) (c0 : Nat) (xs0 : List RingD) (A1 : Option Addr) (c1 : Nat) (xs1 : List Int) (n2 : Int) (w : World) (hx : x.wf) (hn0 : xs0.length ≤ 1099511627776) (hw0 : ∀ y ∈ xs0, y.wf) (hA0 : Rd RingD.cells 5 w A0 xs0) (hn1 : xs1.length ≤ 1099511627776) (hw1 : ∀ y ∈ xs1, intWf y) (hA1 : Rd intC 1 w A1 xs1) (hb2 : intWf n2) :
    Calls Tryd.prog 12 #[.agg #[.string x.Name, .int .i64 x.Radius, .int .i64 x.Tilt], .slice A0 xs0.length c0, .slice A1 xs1.length c1, .int .i64 n2] w (Sl3P (bestZ x xs0 xs1 n2) (bestM x xs0 xs1 n2) (bestC x xs0 xs1 n2) w) := by
  have hsz : x.Name.size ≤ maxLen := by obtain ⟨h1, _⟩ := hx; exact h1
  obtain ⟨W0, hW0⟩ : ∃ W, W = (w.alloc (.cells #[.string x.Name, .int .i64 x.Radius, .int .i64 x.Tilt] 29)) := ⟨_, rfl⟩
  obtain ⟨BD, hBD⟩ : ∃ B, B = w.heap.size := ⟨_, rfl⟩
  have HBD := hide (show Blk W0 BD 29 #[.string x.Name, .int .i64 x.Radius, .int .i64 x.Tilt] from by rw [hW0, hBD]; have h := (Blk.new w 29 #[.string x.Name, .int .i64 x.Radius, .int .i64 x.Tilt]); simpa using h)
  have HX0 := hide (show IsX w W0 from by rw [hW0]; exact (IsX.refl w).alloc _)
  have HDC := hide (show ∀ V, IsX W0 V → V.cell? ⟨BD, 0, none⟩ = some (.string x.Name) ∧ V.cell? ⟨BD, 1, none⟩ = some (.int .i64 x.Radius) ∧ V.cell? ⟨BD, 2, none⟩ = some (.int .i64 x.Tilt) ∧ BD < V.heap.size from fun V hV => ⟨(HBD.out.x hV).cell 0, (HBD.out.x hV).cell 1, (HBD.out.x hV).cell 2, (HBD.out.x hV).lt⟩)
  have HOK := hide (c_l09Ok x BD 0 W0 hsz (by simpa using (HDC.out _ (IsX.refl _)).1) (by simpa using (HDC.out _ (IsX.refl _)).2.1) (by simpa using (HDC.out _ (IsX.refl _)).2.2.1))
  have HMN := hide (c_l23Many A0 c0 xs0 A1 c1 xs1 n2 W0 hn0 hw0 (hA0.x HX0.out) hn1 hw1 (hA1.x HX0.out) hb2)
  cases hok : x.okB
  · have HZ := hide (best_bad (ps := xs1) (n := n2) (show bestK x xs0 xs1 n2 ≠ 0 by rw [bestK_dome hok]; omega))
    rw [bestK_dome hok] at HZ
    rw [hok] at HOK
    go_enter Tryd.func12, Tryd.ntmps12
    go_wp2_with fail
    (try simp only [World.size_alloc, Nat.add_assoc, Nat.reduceAdd])
    rw [← hW0]
    simp only [← hBD]
    clear hW0 hBD
    refine HOK.out.mono ?_
    rintro e w1 ⟨rfl, rfl⟩
    go_wp2_with fail
    go_ret3
    exact Sl3P.none HZ.out.1 (by rw [HZ.out.2.1, HZ.out.2.2]; rfl) HX0.out
  rw [hok] at HOK
  have HKE := hide (bestK_ok (xs := xs0) (ps := xs1) (n := n2) hok)
  by_cases hz : manyC xs0 xs1 n2 = 0
  case neg =>
    have HZ := hide (best_bad (by rw [HKE.out]; exact hz))
    rw [HKE.out] at HZ
    obtain ⟨ak, hak⟩ : ∃ a, a = manyC xs0 xs1 n2 := ⟨_, rfl⟩
    rw [← hak] at HMN HZ hz
    have hzb : (ak != 0) = true := by rw [bne_iff_ne]; exact hz
    clear hz hak
    go_enter Tryd.func12, Tryd.ntmps12
    go_wp2_with fail
    (try simp only [World.size_alloc, Nat.add_assoc, Nat.reduceAdd])
    rw [← hW0]
    simp only [← hBD]
    clear hW0 hBD
    refine HOK.out.mono ?_
    rintro e w1 ⟨rfl, rfl⟩
    go_wp2_with fail
    refine HMN.out.mono ?_
    rintro e w2 ⟨rfl, hx2⟩
    have HX2 := hide (HX0.out.trans hx2)
    clear hx2
    go_wp2_with fail
    go_ret3
    exact Sl3P.none HZ.out.1 (by rw [HZ.out.2.1, HZ.out.2.2]; rfl) HX2.out
  have HKZ := hide (HKE.out.trans hz)
  obtain ⟨hbk, hin⟩ := many_zero hz
  have hin' := inB_true.1 hin
  obtain ⟨i1, i2⟩ := hin'
  obtain ⟨n, rfl⟩ := Int.eq_ofNat_of_zero_le (show 0 ≤ n2 by omega)
  simp only [bookedB, Bool.and_eq_true] at hbk
  have HV := hide hbk.1
  have hs120 := (rings_len hbk.1).2
  obtain ⟨m, hm⟩ := Int.eq_ofNat_of_zero_le (sumCount_nn hbk.1)
  have HM := hide hm
  have hm120 : m ≤ 120 := by omega
  obtain ⟨hR0, hR1, _⟩ := dome_ok hok
  rw [hz] at HMN
  have HAL := hide (fun V (hV : IsX W0 V) => c_l23All A0 c0 xs0 V hn0 (rings_cnt HV.out) ((hA0.x HX0.out).x hV))
  rw [hm] at HAL
  have HPL := hide (fun (k : Nat) (hk : k < m) V (hV : IsX W0 V) => c_l23Place A0 c0 xs0 (k : Int) V HV.out (by omega) (by rw [HM.out]; omega) hn0 ((hA0.x HX0.out).x hV))
  have HSC := hide (fun (k : Nat) (hk : k < m) V (hV : IsX W0 V) => c_l23Score BD x.Radius (placeP (placeZ xs0 (k : Int))) V ⟨hR0, hR1⟩ (by have hpb := place_bd (k := (k : Int)) HV.out (by omega) (by rw [HM.out]; omega); exact ⟨by have := hpb.1; omega, by have := hpb.2.1; omega, by have := hpb.2.2; omega⟩) (HDC.out V hV).2.2.2 (HDC.out V hV).2.1)
  have HBL := hide (fun (k : Nat) (hk : k < m) V (hV : IsX W0 V) => c_l23Block A0 c0 xs0 A1 c1 xs1 (k : Int) n V HV.out (by omega) (by rw [HM.out]; omega) (by omega) (by omega) hn0 hn1 ((hA0.x HX0.out).x hV) ((hA1.x HX0.out).x hV))
  obtain ⟨R, hR⟩ : ∃ R, R = x.Radius := ⟨_, rfl⟩
  have HRR := hide hR
  have HI := hide (info_parts Int64_info)
  clear hz hbk hin hm hs120 hA0 hA1 hn0 hn1 hw0 hw1 hok hR hR0 hR1 hx
  go_enter Tryd.func12, Tryd.ntmps12
  go_wp2_with fail
  (try simp only [World.size_alloc, Nat.add_assoc, Nat.reduceAdd])
  rw [← hW0]
  simp only [← hBD]
  clear hW0 hBD
  refine HOK.out.mono ?_
  rintro e w1 ⟨rfl, rfl⟩
  go_wp2_with fail
  refine HMN.out.mono ?_
  rintro e w2 ⟨rfl, hx2⟩
  have HX2 := hide hx2
  clear hx2 HMN HOK
  go_wp2_with fail
  have HO0 : Hid ((w2.alloc (.cells #[] 2)).ownsRow W0.heap.size 2 1 (.slice (some ⟨w2.heap.size, 0, none⟩) 0 0) 0 []) := hide (row_le (World.ownsRow_made w2 #[] 0 (Nat.le_refl _) (by simp [maxLen]) rfl) HX2.out.size)
  refine (HAL.out _ (HX2.out.alloc _)).mono ?_
  rintro e w3 ⟨rfl, hx3⟩
  have HX3 := hide ((HX2.out.alloc _).trans hx3)
  have HO := hide (own_x HO0.out hx3)
  clear hx3 HO0 HAL
  go_wp2_with fail
  go_loopw [12, 14] (fun ov jv wr => ∃ q : Nat, q ≤ m ∧ jv = .int .i64 (q : Int) ∧ Hid (wr.ownsRow W0.heap.size 2 1 ov q ((scL R xs0 q).flatMap intC)) ∧ IsX W0 wr) (fun _ jv _ => m - (intOf jv).toNat)
  case atStart => exact ⟨0, Nat.zero_le _, rfl, HO, HX3.out⟩
  case round =>
    clear HO HX3 HX2
    obtain ⟨q, hq, rfl, HO, p, rfl⟩ := hrel
    by_cases hlt : q < m
    · have hqm : (q : Int) < (m : Int) := by omega
      have HPq := hide (HPL.out q hlt)
      have HSq := hide (HSC.out q hlt)
      have HSU := hide (scL_succ R xs0 q)
      have hsb := scoreOf_bd R xs0 (q : Int)
      rw [← HRR.out] at HSq
      rw [show scoreZ R (placeP (placeZ xs0 (q : Int))) = scoreOf R xs0 (q : Int) from rfl] at HSq
      generalize scoreOf R xs0 (q : Int) = sc at *
      generalize placeZ xs0 (q : Int) = pp at *
      obtain ⟨px, py⟩ := pp
      simp only [placeP_val] at HPq HSq
      go_wp2_with fail
      refine (HPq.out _ ⟨p, rfl⟩).mono ?_
      rintro e w4 ⟨rfl, hx4⟩
      have HX4 := hide (IsX.trans ⟨p, rfl⟩ hx4)
      replace HO := hide (own_x HO.out hx4)
      clear hx4
      go_wp2_with fail
      refine (HSq.out _ HX4.out).mono ?_
      rintro e w5 ⟨rfl, hx5⟩
      have HX5 := hide (HX4.out.trans hx5)
      replace HO := hide (own_x HO.out hx5)
      clear hx5 HPq HSq HX4
      obtain ⟨p1, rfl⟩ := HX5.out
      clear HX5
      go_wp2_with (at_builtin; obtain ⟨i0, hi0, hz0, hz1, hz2⟩ := HI.out; refine wpList_append_any _ rfl (.tmp 38) (.tmp 43) _ rfl W0.heap.size 2 i0 _ 1 8 Tryd.underlying35 hi0 hz0 hz1 hz2 rfl (by omega) _ q ((scL R xs0 q).flatMap intC) rfl (HO.out.alloc _) _ (some ⟨(xt W0 p1).heap.size, 0, none⟩) 1 1 [.int .i64 sc] rfl (one_reads' (xt W0 p1) 2 sc) (one_one' sc) (by simp only [maxLen]; omega) (by omega) (by have := size_xt W0 p1; simp; omega) ?_; clear hi0 hz0 hz1 hz2; intro v1 w1 hown1 hg1 hat1; have HO1 := hide hown1; have hx1 : IsX W0 w1 := IsX.grown (IsX.alloc (w' := xt W0 p1) ⟨p1, rfl⟩ _) hg1 (by intro z hz; exact (HO.out.lt z hz).1); clear hown1 hg1 hat1; obtain ⟨p2, rfl⟩ := hx1)
      go_roundw
      case rel => exact ⟨q + 1, by omega, by first | go_num | (congr 1; omega), hide (by rw [HSU.out, List.flatMap_append]; exact HO1.out), ⟨p2, rfl⟩⟩
      case measure => simp [intOf]; omega
    · obtain rfl : q = m := by omega
      obtain ⟨As, cs, hform⟩ := row_slice HO.out
      subst hform
      have HX1 := hide (show IsX W0 (xt W0 p) from ⟨p, rfl⟩)
      have HRS : Hid (Rd intC 1 (xt W0 p) As (scL R xs0 q)) := hide (own_rd' (scL_len R xs0 q) HO.out)
      generalize xt W0 p = W1 at *
      clear HO HPL HSC
      go_wp2_with fail
      go_loopw [15, 16, 17] (fun bv mv kv wr => ∃ k : Nat, k ≤ q ∧ kv = .int .i64 (k : Int) ∧ (∃ most, mv = .int .i64 most ∧ Hid (BestSt R xs0 n W0.heap.size wr bv most 0 (bestL (fS R xs0 n) (startsB (blockB xs0 xs1 n) k)))) ∧ Hid (IsX W1 wr)) (fun _ _ kv _ => q - (intOf kv).toNat)
      case atStart => exact ⟨0, Nat.zero_le _, rfl, ⟨0, rfl, hide ⟨⟨_, _, rfl⟩, rfl⟩⟩, hide ((IsX.refl _).alloc _)⟩
      case round =>
        obtain ⟨k, hk, rfl, ⟨most, rfl, HB⟩, HXW⟩ := hrel
        by_cases hkq : k < q
        · have hkm : (k : Int) < (q : Int) := by omega
          have HBk := hide (HBL.out k hkq wr (HX1.out.trans HXW.out))
          cases hb : blockB xs0 xs1 n (k : Int)
          · rw [blockZ_no hb, List.length_nil] at HBk
            rw [← startsB_no hb] at HB
            go_wp2_with fail
            refine HBk.out.mono ?_
            rintro e w5 ⟨A5, c5, rfl, hO5, hx5⟩
            have HX6 := hide (HXW.out.trans hx5)
            have HB5 := hide (HB.out.x hx5)
            clear hO5 hx5 HBk HB HXW
            go_wp2_with fail
            go_loopw [19, 20] (fun sv iv wr => sv = .int .i64 0 ∧ iv = .int .i64 0 ∧ w5 = wr) (fun _ _ _ => 0)
            case atStart => exact ⟨rfl, rfl, rfl⟩
            case round =>
              obtain ⟨rfl, rfl, rfl⟩ := hrel
              go_wp2_with fail
              go_roundw
              case rel => exact ⟨k + 1, by omega, by go_num, ⟨most, rfl, HB5⟩, HX6⟩
              case measure => simp [intOf]; omega
          · rw [blockZ_yes hb, blockL_len] at HBk
            have HSY := hide (startsB_yes hb)
            have hend : k + n ≤ q := by
              simp only [blockB, Bool.and_eq_true, decide_eq_true_eq] at hb
              have := (ring_end (rings_cnt HV.out) (k := (k : Int)) (by omega) (by rw [HM.out]; omega) (by omega) hb.1).1
              rw [HM.out] at this
              omega
            go_wp2_with fail
            refine HBk.out.mono ?_
            rintro e w5 ⟨A5, c5, rfl, hO5, hx5⟩
            have HX6 := hide (HXW.out.trans hx5)
            have HB5 := hide (HB.out.x hx5)
            have HO5 : Hid (Own intC 1 2 w5 W0.heap.size (.slice A5 n c5) (blockL (k : Int) n)) := hide (hO5.mono (Nat.le_trans HX1.out.size HXW.out.size))
            have HRB : Hid (Rd intC 1 w5 A5 (blockL (k : Int) n)) := hide (Own.rd (cells := intC) (k := 1) (by omega) intC_len HO5.out (blockL_len _ _).symm)
            clear hO5 hx5 HBk HB HXW
            go_wp2_with fail
            go_loopw [19, 20] (fun sv iv wr => ∃ j : Nat, j ≤ n ∧ sv = .int .i64 (sumS (scoreOf R xs0) (k : Int) j) ∧ iv = .int .i64 (j : Int) ∧ w5 = wr) (fun _ iv _ => n - (intOf iv).toNat)
            case atStart => exact ⟨0, Nat.zero_le _, rfl, rfl, rfl⟩
            case round =>
              obtain ⟨j, hj, rfl, rfl, rfl⟩ := hrel
              by_cases hjn : j < n
              · have hjn' : (j : Int) < (n : Int) := by omega
                have HSS := hide (sumS_succ (scoreOf R xs0) (k : Int) j)
                have hsm := sumS_bd (f := scoreOf R xs0) (k := (k : Int)) (n := j) (fun _ _ => scoreOf_bd _ _ _)
                have hsb := scoreOf_bd R xs0 ((k : Int) + (j : Int))
                obtain ⟨e, he⟩ : ∃ e, e = k + j := ⟨_, rfl⟩
                have heq : (e : Int) < (q : Int) := by omega
                have hei : ((e : Nat) : Int) = (k : Int) + (j : Int) := by omega
                have hg1 : (blockL (k : Int) n)[j]? = some ((e : Nat) : Int) := by rw [blockL_get hjn, hei]
                have hg2 : (scL R xs0 q)[e]? = some (scoreOf R xs0 ((k : Int) + (j : Int))) := by rw [scL_get (by omega), hei]
                generalize scoreOf R xs0 ((k : Int) + (j : Int)) = sc at *
                generalize sumS (scoreOf R xs0) (k : Int) j = sj at *
                obtain ⟨b1, o1, rfl, hb1, cq⟩ := int_rd HRB.out hg1
                obtain ⟨b2, o2, rfl, hb2', dq⟩ := int_rd (HRS.out.x HX6.out) hg2
                clear he hei hg1 hg2
                go_wp2_with fail
                go_roundw
                case rel => exact ⟨j + 1, by omega, congrArg (Value.int .i64) (by rw [HSS.out]), by go_num, by first | rfl | trivial⟩
                case measure => simp [intOf]; omega
              · obtain rfl : j = n := by omega
                have hfb := fS_bd R xs0 j k
                have HSN := hide (bestL_snoc (fS R xs0 j) (startsB (blockB xs0 xs1 j) k) k)
                rw [← HSY.out] at HSN
                rw [show sumS (scoreOf R xs0) (k : Int) j = fS R xs0 j k from rfl]
                have HFK := hide (show fS R xs0 j k = fS R xs0 j k from rfl)
                generalize bestL (fS R xs0 j) (startsB (blockB xs0 xs1 j) k) = o at HSN HB5
                generalize hfk : fS R xs0 j k = fk at hfb ⊢
                replace HFK := hide hfk
                clear hfk
                cases o with
                | none =>
                  obtain ⟨⟨Ab, cb, rfl⟩, rfl⟩ := HB5.out
                  go_wp2_with fail
                  go_roundw
                  case rel => exact ⟨k + 1, by omega, by go_num, ⟨_, rfl, hide (by rw [HSN.out]; exact ⟨⟨A5, c5, rfl, HO5.out⟩, HFK.out.symm⟩)⟩, HX6⟩
                  case measure => simp [intOf]; omega
                | some b =>
                  have HB6 := HB5.out
                  obtain ⟨⟨Ab, cb, rfl, hOb⟩, hmb⟩ := HB6
                  have HOB := hide hOb
                  have HMB := hide hmb
                  clear hOb hmb
                  by_cases hgt : most < fk
                  · have HR := hide (show bestStep (fS R xs0 j) (some b) k = some k by simp only [bestStep]; rw [if_pos (by rw [HFK.out, ← HMB.out]; exact hgt)])
                    go_wp2_with fail
                    go_roundw
                    case rel => exact ⟨k + 1, by omega, by go_num, ⟨_, rfl, hide (by rw [HSN.out, HR.out]; exact ⟨⟨A5, c5, rfl, HO5.out⟩, HFK.out.symm⟩)⟩, HX6⟩
                    case measure => simp [intOf]; omega
                  · have HR := hide (show bestStep (fS R xs0 j) (some b) k = some b by simp only [bestStep]; rw [if_neg (by rw [HFK.out, ← HMB.out]; exact hgt)])
                    go_wp2_with fail
                    go_roundw
                    case rel => exact ⟨k + 1, by omega, by go_num, ⟨_, rfl, hide (by rw [HSN.out, HR.out]; exact ⟨⟨Ab, cb, rfl, HOB.out⟩, HMB.out⟩)⟩, HX6⟩
                    case measure => simp [intOf]; omega
        · obtain rfl : k = q := by omega
          generalize ho : bestL (fS R xs0 n) (startsB (blockB xs0 xs1 n) k) = o at HB
          cases o with
          | none =>
            have HZ := hide (best_none HKZ.out HM.out HRR.out ho)
            obtain ⟨⟨Ab, cb, rfl⟩, rfl⟩ := HB.out
            clear ho
            go_wp2_with fail
            go_ret3
            exact Sl3P.none HZ.out.1 (by rw [HZ.out.2.1, HZ.out.2.2]; rfl) ((HX0.out.trans HX1.out).trans HXW.out)
          | some b =>
            have HZ := hide (best_some HKZ.out HM.out HRR.out ho)
            have HB6 := HB.out
            obtain ⟨⟨Ab, cb, rfl, hOb⟩, hmb⟩ := HB6
            have HOB := hide hOb
            have HMB := hide hmb
            clear ho hOb hmb
            go_wp2_with fail
            go_ret3
            refine ⟨Ab, cb, by rw [HZ.out.1, HZ.out.2.1, HZ.out.2.2, blockL_len, HMB.out]; rfl, ?_, (HX0.out.trans HX1.out).trans HXW.out⟩
            rw [HZ.out.1, blockL_len]
            exact HOB.out.mono HX0.out.size

end Go.Proofs.YtadmpefbpklibaaDoor
