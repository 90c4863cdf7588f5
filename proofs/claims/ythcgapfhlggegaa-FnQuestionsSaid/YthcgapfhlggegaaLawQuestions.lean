/- FnQuestions: the walk through the law's own text. Conditions: those of the row's arguments alone. -/
import Derived.Test.YthcgapfhlggegaaLawFns
import Derived.Test.YthcgapfhlggegaaQuestBest
import Derived.Test.YthcgapfhlggegaaAskOrder
import Derived.Test.YthcgapfhlggegaaDrawAsk
namespace Go.Proofs.Ythcgapfhlggegaa
set_option linter.unusedVariables false
open Go.RowKit

theorem lenQ_bd {xs : List QuestionD} (hv : questsB xs = true) {os : List Int} (hr : ∀ t ∈ os, 0 ≤ t ∧ t < (xs.length : Int)) : ∀ p ∈ os, (0 ≤ lenQ xs p ∧ lenQ xs p ≤ 1800000) := fun p hp => by
  have h1 := hr p hp
  obtain ⟨j, rfl⟩ := Int.eq_ofNat_of_zero_le h1.1
  have hj : j < xs.length := by omega
  rw [lenQ_at hj]
  have := (questsB_ok hv).2 _ (List.getElem_mem hj)
  omega
theorem priQ_bd {xs : List QuestionD} (hv : questsB xs = true) {os : List Int} (hr : ∀ t ∈ os, 0 ≤ t ∧ t < (xs.length : Int)) : ∀ p ∈ os, (0 ≤ priQ xs p ∧ priQ xs p ≤ 100) := fun p hp => by
  have h1 := hr p hp
  obtain ⟨j, rfl⟩ := Int.eq_ofNat_of_zero_le h1.1
  have hj : j < xs.length := by omega
  rw [priQ_at hj]
  have := (questsB_ok hv).2 _ (List.getElem_mem hj)
  omega
set_option maxHeartbeats 12800000 in
set_option maxRecDepth 100000 in
theorem law_FnQuestions (A : Option Addr) (c : Nat) (bs : List Int) (AM : Option Addr) (cM : Nat) (bsM : List Int) (w : World) (hn : bs.length ≤ maxLen) (hb : ∀ x ∈ bs, byteWf x) (hA : Rd byteC 1 w A bs) (hnM : bsM.length ≤ maxLen) (hbM : ∀ x ∈ bsM, byteWf x) (hAM : Rd byteC 1 w AM bsM) :
    Calls Try.prog 3 #[.slice A bs.length c, .slice AM bsM.length cM] w fun e w' => e = .returned (.bool true) ∧ IsX w w' := by
  by_cases hl : 1048576 < bs.length
  · generalize bs.length = n at hl hn ⊢
    generalize bsM.length = nM at hnM ⊢
    unfold maxLen at hn hnM
    have hd : decide ((n : Int) > 1048576) = true := decide_eq_true (by omega)
    go_enter Try.func3, Try.ntmps3
    go_wp2_with (go_at_call 5; refine (cb (c_b10Long _ _ _ _) hd).mono ?_; rintro e w' ⟨rfl, rfl⟩)
    go_ret
    exact ⟨rfl, IsX.refl _⟩
  have hd : decide ((bs.length : Int) > 1048576) = false := decide_eq_false (by omega)
  by_cases hlM : 1048576 < bsM.length
  · generalize bs.length = n at hl hd hn ⊢
    generalize bsM.length = nM at hnM hlM ⊢
    unfold maxLen at hn hnM
    have hdM : decide ((nM : Int) > 1048576) = true := decide_eq_true (by omega)
    have HL1 := hide (fun (V : World) => cb (c_b10Long A n c V) hd)
    have HL2 := hide (fun (V : World) => cb (c_b10Long AM nM cM V) hdM)
    clear hd hdM
    go_enter Try.func3, Try.ntmps3
    go_wp2_with fail
    refine (HL1.out w).mono ?_
    rintro e w' ⟨rfl, rfl⟩
    go_wp2_with fail
    refine (HL2.out w).mono ?_
    rintro e w' ⟨rfl, rfl⟩
    go_wp2_with fail
    go_ret
    exact ⟨rfl, IsX.refl _⟩
  have hdM : decide ((bsM.length : Int) > 1048576) = false := decide_eq_false (by omega)
  have HD0 : Hid (Calls Try.prog 6 #[.slice A bs.length c] w (DrawQ w)) := hide (c_DrawAnswerOrder A c bs w (by omega) hb hA)
  have HD1 : Hid (∀ V : World, IsX w V → Calls Try.prog 10 #[.slice AM bsM.length cM] V (DrawQ V)) := hide (fun V hV => c_DrawBestQuestions AM cM bsM V (by omega) hbM (hAM.x hV))
  generalize bs.length = bl at hl hd HD0 ⊢
  generalize bsM.length = blM at hlM hdM HD1 ⊢
  have HL1 := hide (fun (V : World) => cb (c_b10Long A bl c V) hd)
  have HL2 := hide (fun (V : World) => cb (c_b10Long AM blM cM V) hdM)
  clear hn hb hA hnM hbM hAM hd hdM hl hlM
  go_enter Try.func3, Try.ntmps3
  go_wp2_with fail
  refine (HL1.out w).mono ?_
  rintro e w' ⟨rfl, rfl⟩
  go_wp2_with fail
  refine (HL2.out w).mono ?_
  rintro e w' ⟨rfl, rfl⟩
  clear HL1 HL2
  go_wp2_with fail
  refine HD0.out.mono ?_
  rintro e w1 ⟨A1, c1, xs, st, fi, rfl, hxl, hwf, hst, hfi, ho, hx⟩
  have hcap := own_cap ho
  have hrd : Rd QuestionD.cells 4 w1 A1 xs := Own.rd (cells := QuestionD.cells) (k := 4) (by omega) QuestionD.cells_len ho rfl
  have HX1 := hide hx
  have HRD := hide hrd
  have HAO := hide (c_AnswerOrder A1 c1 xs st fi w1 (by omega) hwf hrd)
  have HBQ : Hid (∀ V : World, IsX w1 V → intWf (fi - st) → Calls Try.prog 9 #[.slice A1 xs.length c1, .int .i64 (fi - st), .int .i64 20000] V (Sl3Post intC 1 2 V (questAns xs (fi - st) 20000).1 (questAns xs (fi - st) 20000).2.1 (questAns xs (fi - st) 20000).2.2)) :=
    hide (fun V hV hwf' => i_BestQuestions A1 c1 xs (fi - st) 20000 V (by omega) hwf (hrd.x hV) hwf' (by unfold intWf; omega) hcap)
  have HSAY := hide (questAns_says xs (fi - st) 20000)
  clear ho hx hrd hwf HD0 hst hfi
  obtain ⟨n, hnn⟩ : ∃ n, n = xs.length := ⟨_, rfl⟩
  have HN := hide hnn
  rw [← hnn] at hxl hcap HAO HBQ ⊢
  clear hnn
  generalize hans : questAns xs (fi - st) 20000 = ans at HBQ HSAY
  obtain ⟨zs, mo, code2⟩ := ans
  simp only at HBQ HSAY
  clear hans
  go_wp2_with fail
  refine HAO.out.mono ?_
  rintro e w2 ⟨A2, c2, os, code, rfl, hop, ho2, hx2⟩
  have HOP := hide hop
  have HX2 := hide (HX1.out.trans hx2)
  have HX12 := hide hx2
  have HRD2 := hide (HRD.out.x hx2)
  have hcap2 := own_cap ho2
  have HZ2 := hide (show Rd intC 1 w2 A2 os from Own.rd (cells := intC) (k := 1) (by omega) intC_len ho2 rfl)
  obtain ⟨m, hm⟩ : ∃ m, m = os.length := ⟨_, rfl⟩
  have HM := hide hm
  rw [← hm] at hcap2 ⊢
  clear ho2 hx2 HAO HRD HX1 hop hm
  go_upto_if 46 with fail
  go_cut [10] (fun s10 wc => IsX w wc)
  case first =>
    rcases HOP.out with ⟨hc, -⟩ | ⟨hc, hv, hs0, hsf, hf1, hnd, hos16, hrg, hfit, harr⟩
    · have q1 : (code == 0) = false := by simp only [beq_eq_false_iff_ne, ne_eq]; exact hc
      go_wp2_with fail
      go_meet
      exact HX2.out
    · subst hc
      have HV := hide (questsB_ok hv).2
      have HRG := hide hrg
      have HND := hide hnd
      have HARR := hide harr
      have HFIT := hide hfit
      have HLB := hide (lenQ_bd hv hrg)
      have HSB := hide (priQ_bd hv hrg)
      have hm16 : m ≤ 16 := by rw [HM.out]; exact hos16
      have hn16 : n ≤ 16 := by rw [HN.out]; exact quests_len hv
      have HOPT := hide (show code2 ≠ 0 ∨ (code2 = 0 ∧ sumF (priQ xs) os ≤ mo) from by
        rcases HSAY.out with ⟨h1, _⟩ | ⟨h1, _, _, _, _, h6⟩
        · exact .inl h1
        · exact .inr ⟨h1, h6 os hnd hrg (by omega)⟩)
      clear hv hnd hrg harr hfit HSAY HOP hos16
      go_wp2_with fail
      go_loopw [10, 11, 12] (fun nv sv iv wr => ∃ k : Nat, k ≤ m ∧ iv = .int .i64 k ∧ nv = .int .i64 (st + sumF (lenQ xs) (os.take k)) ∧ sv = .int .i64 (sumF (priQ xs) (os.take k)) ∧ IsX w2 wr) (fun _ _ iv _ => m - (intOf iv).toNat)
      case atStart => exact ⟨0, Nat.zero_le _, rfl, by simp [sumF], by simp [sumF], IsX.refl _⟩
      case round =>
        obtain ⟨k, hk, rfl, rfl, rfl, p, rfl⟩ := hrel
        have hbd := sumF_bd (f := lenQ xs) (m := 1800000) (by omega) (ps := os.take k) (fun p hp => HLB.out p (List.mem_of_mem_take hp))
        have hbd2 := sumF_bd (f := priQ xs) (m := 100) (by omega) (ps := os.take k) (fun p hp => HSB.out p (List.mem_of_mem_take hp))
        have hlk : (os.take k).length ≤ k := List.length_take_le _ _
        obtain ⟨bd0, bd1⟩ := hbd
        obtain ⟨be0, be1⟩ := hbd2
        by_cases hlt : k < m
        · have hltx : k < os.length := HM.out ▸ hlt
          have hrk := HRG.out _ (List.getElem_mem hltx)
          obtain ⟨j, hj⟩ := Int.eq_ofNat_of_zero_le hrk.1
          have hjn : j < xs.length := by omega
          obtain ⟨b, off, e, hb, c0⟩ := int_rd HZ2.out (show os[k]? = some os[k] from List.getElem?_eq_getElem _)
          have HHAS := hide (fun (V : World) (hV : IsX (xt w2 p) V) => c_b10Has A2 c2 os k os[k] V (by omega) (by omega) (fun t h htk => by
            have := List.pairwise_iff_getElem.1 HND.out t k h hltx htk
            exact this) (HZ2.out.x (IsX.trans ⟨p, rfl⟩ hV)))
          subst e
          rw [hj] at c0 HHAS
          obtain ⟨b2, off2, e, hb2, d0, d1, d2, d3⟩ := QuestionD.rd HRD2.out (show xs[j]? = some xs[j] from List.getElem?_eq_getElem _)
          subst e
          obtain ⟨x0, x1, x2, x3⟩ := HV.out _ (List.getElem_mem hjn)
          have HS := hide (show sumF (lenQ xs) (os.take (k + 1)) = sumF (lenQ xs) (os.take k) + xs[j].Length by rw [sumF_take hltx, hj, lenQ_at hjn])
          have HS2 := hide (show sumF (priQ xs) (os.take (k + 1)) = sumF (priQ xs) (os.take k) + xs[j].Priority by rw [sumF_take hltx, hj, priQ_at hjn])
          have har : xs[j].Arrived ≤ st + sumF (lenQ xs) (os.take k) := by
            have h := HARR.out k hltx
            rw [hj, Int.toNat_natCast, questAt_eq hjn] at h
            exact h
          generalize sumF (lenQ xs) (os.take k) = SK at bd0 bd1 HS har ⊢
          generalize sumF (priQ xs) (os.take k) = SL at be0 be1 HS2 ⊢
          generalize xs[j] = x at d0 d1 d2 d3 x0 x1 x2 x3 HS HS2 har
          have hjn' : (j : Int) < (n : Int) := by have := HN.out; omega
          have g0 : decide ((j : Int) < 0) = false := decide_eq_false (by omega)
          have g1 : decide (n ≤ j) = false := decide_eq_false (by omega)
          have g2 : decide (x.Arrived > st + SK) = false := decide_eq_false (by omega)
          clear hj hrk
          go_wp2_with fail
          refine wp_region_x (by kernel_rfl) (by kernel_rfl) ?_
          repeat (go_big_quiet_step ((go_at_call 8; exact call_x (HHAS.out _ ⟨_, rfl⟩))))
          refine wpQuiet_nil ?_
          rintro _ ⟨q, rfl⟩
          go_wp2_with fail
          go_roundw
          case rel => exact ⟨k + 1, by omega, by go_num, by rw [HS.out]; congr 1; omega, by rw [HS2.out], IsX.alloc (IsX.xt ⟨p, rfl⟩ q) _⟩
          case measure => simp [intOf]; omega
        · obtain rfl : k = m := by omega
          have HT := hide (show os.take k = os by rw [HM.out]; exact List.take_length)
          rw [HT.out] at bd0 bd1 be0 be1 ⊢
          have hfit : st + sumF (lenQ xs) os ≤ fi := HFIT.out
          generalize sumF (lenQ xs) os = SK at bd0 bd1 hfit ⊢
          generalize sumF (priQ xs) os = SL at be0 be1 HOPT ⊢
          have g1 : decide (st + SK > fi) = false := decide_eq_false (by omega)
          have hbq := HBQ.out (xt w2 p) (HX12.out.trans ⟨p, rfl⟩) (by unfold intWf; omega)
          have HB := hide hbq
          clear hbq HBQ
          go_wp2_with fail
          refine HB.out.mono ?_
          rintro e w3 ⟨A3, c3, rfl, ho3, hx3⟩
          have HX3 : Hid (IsX w w3) := hide ((HX2.out.trans ⟨p, rfl⟩).trans hx3)
          clear ho3 hx3 HB
          rcases HOPT.out with hc2 | ⟨hc2, hle⟩
          · have q1 : (code2 == 0) = false := by simp only [beq_eq_false_iff_ne, ne_eq]; exact hc2
            clear hc2
            go_wp2_with fail
            go_meet
            exact HX3.out
          · subst hc2
            have q1 : decide (mo < SL) = false := decide_eq_false (by omega)
            go_wp2_with fail
            go_meet
            exact HX3.out
  case rest =>
    have HX3 : Hid (IsX w wc) := hide hcut
    clear hcut HX2 HX12 HRD2 HZ2 HBQ HSAY HOP
    have HD2 := hide (HD1.out wc HX3.out)
    clear HD1
    go_wp2_with fail
    refine HD2.out.mono ?_
    rintro e w4 ⟨A4, c4, ys, tm, bud, rfl, hyl, hwf, htm, hbu, ho, hx⟩
    have hcap4 := own_cap ho
    have hrd : Rd QuestionD.cells 4 w4 A4 ys := Own.rd (cells := QuestionD.cells) (k := 4) (by omega) QuestionD.cells_len ho rfl
    have HX4 := hide (HX3.out.trans hx)
    have HRD := hide hrd
    have HB := hide (i_BestQuestions A4 c4 ys tm bud w4 (by omega) hwf hrd htm hbu hcap4)
    have HSAY := hide (questAns_says ys tm bud)
    have HALEN := hide (questAns_len ys tm bud)
    clear ho hx hrd hwf HD2 HX3
    obtain ⟨n4, hnn⟩ : ∃ n4, n4 = ys.length := ⟨_, rfl⟩
    have HN4 := hide hnn
    rw [← hnn] at hyl hcap4 HB ⊢
    clear hnn
    generalize hans : questAns ys tm bud = ans at HB HSAY HALEN
    obtain ⟨zs, mo, code⟩ := ans
    simp only at HB HSAY HALEN
    clear hans
    go_wp2_with fail
    refine HB.out.mono ?_
    rintro e w5 ⟨A5, c5, rfl, ho5, hx5⟩
    have HX5 := hide (HX4.out.trans hx5)
    have HRD5 := hide (HRD.out.x hx5)
    have HZ5 := hide (show Rd intC 1 w5 A5 zs from Own.rd (cells := intC) (k := 1) (by omega) intC_len ho5 rfl)
    clear ho5 hx5 HB HRD HX4
    rcases HSAY.out with ⟨h1, h2, h3⟩ | ⟨h1, hv, hr, h4, h5, -⟩
    · subst h2 h3
      have q1 : (code == 0) = false := by simp only [beq_eq_false_iff_ne, ne_eq]; exact h1
      clear h1
      go_wp2_with fail
      go_ret
      exact ⟨rfl, HX5.out⟩
    · have h16 : n4 ≤ 16 := by rw [HN4.out]; exact quests_len hv
      have HV := hide (questsB_ok hv).2
      have HR := hide hr
      have HLB := hide (lenQ_bd hv hr.2)
      have HSB := hide (priQ_bd hv hr.2)
      have H4 := hide h4
      have H5 := hide h5
      obtain ⟨m4, hm⟩ : ∃ m4, m4 = zs.length := ⟨_, rfl⟩
      have hm16 : m4 ≤ 16 := by
        rw [hm]
        have := hr.len
        have := HN4.out
        omega
      have HM4 := hide hm
      have HB10 := hide (c_b10Rises A5 c5 zs n4 w5 (HN4.out ▸ hr) (by rw [← hm]; omega) (by omega) HZ5.out)
      rw [← hm] at HB10
      rw [← hm]
      subst h1
      clear hm hv hr h4 h5
      go_wp2_with fail
      refine HB10.out.mono ?_
      rintro e w6 ⟨rfl, hx6⟩
      have HX6 := hide (HX5.out.trans hx6)
      have HRD6 := hide (HRD5.out.x hx6)
      have HZ6 := hide (HZ5.out.x hx6)
      clear hx6 HB10 HX5 HRD5 HZ5
      go_wp2_with fail
      go_loopw [23, 24, 25] (fun lv sv iv wr => ∃ k : Nat, k ≤ m4 ∧ iv = .int .i64 k ∧ lv = .int .i64 (sumF (lenQ ys) (zs.take k)) ∧ sv = .int .i64 (sumF (priQ ys) (zs.take k)) ∧ IsX w6 wr) (fun _ _ iv _ => m4 - (intOf iv).toNat)
      case atStart => exact ⟨0, Nat.zero_le _, rfl, by simp [sumF], by simp [sumF], IsX.refl _⟩
      case round =>
        obtain ⟨k, hk, rfl, rfl, rfl, p, rfl⟩ := hrel
        have hbd := sumF_bd (f := lenQ ys) (m := 1800000) (by omega) (ps := zs.take k) (fun p hp => HLB.out p (List.mem_of_mem_take hp))
        have hbd2 := sumF_bd (f := priQ ys) (m := 100) (by omega) (ps := zs.take k) (fun p hp => HSB.out p (List.mem_of_mem_take hp))
        have hlk : (zs.take k).length ≤ k := List.length_take_le _ _
        obtain ⟨bd0, bd1⟩ := hbd
        obtain ⟨be0, be1⟩ := hbd2
        by_cases hlt : k < m4
        · have hltx : k < zs.length := HM4.out ▸ hlt
          obtain ⟨j, hj, hjn⟩ := HR.out.at_ hltx
          obtain ⟨b, off, e, hb, c0⟩ := int_rd HZ6.out (show zs[k]? = some zs[k] from List.getElem?_eq_getElem _)
          subst e
          rw [hj] at c0
          obtain ⟨b2, off2, e, hb2, d0, d1, d2, d3⟩ := QuestionD.rd HRD6.out (show ys[j]? = some ys[j] from List.getElem?_eq_getElem _)
          subst e
          obtain ⟨x0, x1, x2, x3⟩ := HV.out _ (List.getElem_mem hjn)
          have HS := hide (show sumF (lenQ ys) (zs.take (k + 1)) = sumF (lenQ ys) (zs.take k) + ys[j].Length by rw [sumF_take hltx, hj, lenQ_at hjn])
          have HS2 := hide (show sumF (priQ ys) (zs.take (k + 1)) = sumF (priQ ys) (zs.take k) + ys[j].Priority by rw [sumF_take hltx, hj, priQ_at hjn])
          generalize sumF (lenQ ys) (zs.take k) = SK at bd0 bd1 HS ⊢
          generalize sumF (priQ ys) (zs.take k) = SL at be0 be1 HS2 ⊢
          generalize ys[j] = x at d0 d1 d2 d3 x0 x1 x2 x3 HS HS2
          have hjn' : (j : Int) < (n4 : Int) := by have := HN4.out; omega
          clear hj
          go_wp2_with fail
          go_roundw
          case rel => exact ⟨k + 1, by omega, by go_num, by rw [HS.out], by rw [HS2.out], ⟨p, rfl⟩⟩
          case measure => simp [intOf]; omega
        · obtain rfl : k = m4 := by omega
          have HT := hide (show zs.take k = zs by rw [HM4.out]; exact List.take_length)
          rw [HT.out] at bd0 bd1 be0 be1 ⊢
          have h5 : sumF (lenQ ys) zs ≤ tm := H5.out
          have hm4 : mo = sumF (priQ ys) zs := H4.out
          subst hm4
          generalize sumF (lenQ ys) zs = SK at bd0 bd1 h5 ⊢
          generalize sumF (priQ ys) zs = SL at be0 be1 ⊢
          have g1 : decide (SK ≤ tm) = true := decide_eq_true h5
          go_wp2_with fail
          go_ret
          exact ⟨by simp, HX6.out.trans ⟨p, rfl⟩⟩
end Go.Proofs.Ythcgapfhlggegaa
