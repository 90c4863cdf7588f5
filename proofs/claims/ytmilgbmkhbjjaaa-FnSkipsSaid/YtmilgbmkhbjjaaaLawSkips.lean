/- FnSkips: the walk through the law's own text. Conditions: those of the row's argument alone. -/
import Derived.Test.YtmilgbmkhbjjaaaSkipFns
namespace Go.Proofs.Ytmilgbmkhbjjaaa
set_option linter.unusedVariables false
open Go.RowKit

set_option maxHeartbeats 6400000 in
set_option maxRecDepth 100000 in
theorem law_FnSkips (A : Option Addr) (c : Nat) (bs : List Int) (w : World) (hn : bs.length ≤ maxLen) (hb : ∀ x ∈ bs, byteWf x) (hA : Rd byteC 1 w A bs) :
    Calls Try.prog 3 #[.slice A bs.length c] w fun e w' => e = .returned (.bool true) ∧ IsX w w' := by
  by_cases hl : 1048576 < bs.length
  · generalize bs.length = n at hl hn ⊢
    unfold maxLen at hn
    have hd : decide ((n : Int) > 1048576) = true := decide_eq_true (by omega)
    go_enter Try.func3, Try.ntmps3
    go_wp2_with (go_at_call 4; refine (cb (c_b10Long _ _ _ _) hd).mono ?_; rintro e w' ⟨rfl, rfl⟩)
    go_ret
    exact ⟨rfl, IsX.refl _⟩
  have HD0 : Hid (Calls Try.prog 5 #[.slice A bs.length c] w (DrawQ w)) := hide (c_DrawBestSkips A c bs w (by omega) hb hA)
  have hd : decide ((bs.length : Int) > 1048576) = false := decide_eq_false (by omega)
  generalize bs.length = n at hl hd HD0 ⊢
  clear hn hb hA
  go_enter Try.func3, Try.ntmps3
  go_wp2_with (go_at_call 4; refine (cb (c_b10Long _ _ _ _) hd).mono ?_; rintro e w' ⟨rfl, rfl⟩)
  refine HD0.out.mono ?_
  rintro e w1 ⟨A1, c1, xs, lost, bud, rfl, hxl, hwf, hlo, hbu, ho, hx⟩
  have hcap := own_cap ho
  have hrd : Rd SkipD.cells 3 w1 A1 xs := Own.rd (cells := SkipD.cells) (k := 3) (by omega) SkipD.cells_len ho rfl
  have HX1 := hide hx
  have HRD := hide hrd
  have HB := hide (i_BestSkips A1 c1 xs lost bud w1 (by omega) hwf hrd hlo hbu hcap)
  have HSAY := hide (skipAns_says xs lost bud)
  have HALEN := hide (skipAns_len xs lost bud)
  have HWF := hide hwf
  have HLO := hide hlo
  clear ho hx hrd hwf HD0
  obtain ⟨n, hnn⟩ : ∃ n, n = xs.length := ⟨_, rfl⟩
  have HN := hide hnn
  rw [← hnn] at hxl hcap HB ⊢
  clear hnn
  generalize hans : skipAns xs lost bud = ans at HB HSAY HALEN
  obtain ⟨zs, mo, code⟩ := ans
  simp only at HB HSAY HALEN
  clear hans
  go_wp2_with fail
  refine HB.out.mono ?_
  rintro e w2 ⟨A2, c2, rfl, ho2, hx2⟩
  have HX2 := hide (HX1.out.trans hx2)
  have HRD2 := hide (HRD.out.x hx2)
  have HZ2 := hide (show Rd intC 1 w2 A2 zs from Own.rd (cells := intC) (k := 1) (by omega) intC_len ho2 rfl)
  clear ho2 hx2 HB HRD HX1
  rcases HSAY.out with ⟨h1, h2, hv, h4⟩ | ⟨h1, h2, h3, h4⟩ | ⟨h1, hv, hr, h4, h5⟩
  · have HV := hide (skipsB_ok hv).2
    have HLS := hide h4
    subst h1 h2
    clear hv h4
    go_wp2_with fail
    go_loopw [9, 10] (fun sv iv wr => ∃ k : Nat, k ≤ n ∧ iv = .int .i64 k ∧ sv = .int .i64 (sumLen (xs.take k)) ∧ IsX w2 wr) (fun _ iv _ => n - (intOf iv).toNat)
    case atStart => exact ⟨0, Nat.zero_le _, rfl, by simp [sumLen], IsX.refl _⟩
    case round =>
      obtain ⟨k, hk, rfl, rfl, p, rfl⟩ := hrel
      have hbd := sumLen_bd (xs.take k) (fun x hx => by have := HV.out x (List.mem_of_mem_take hx); omega)
      have hlk : (xs.take k).length ≤ k := List.length_take_le _ _
      obtain ⟨bd0, bd1⟩ := hbd
      by_cases hlt : k < n
      · have hltx : k < xs.length := HN.out ▸ hlt
        obtain ⟨b, off, rfl, hb, d0, d1, d2⟩ := SkipD.rd HRD2.out (show xs[k]? = some xs[k] from List.getElem?_eq_getElem _)
        obtain ⟨x0, x1, x2, x3, x4, x5, x6⟩ := HV.out _ (List.getElem_mem hltx)
        have HS := hide (sumLen_take xs k hltx)
        generalize sumLen (xs.take k) = SK at bd0 bd1 HS ⊢
        go_wp2_with fail
        go_roundw
        case rel => exact ⟨k + 1, by omega, by go_num, by rw [HS.out], ⟨p, rfl⟩⟩
        case measure => simp [intOf]; omega
      · obtain rfl : k = n := by omega
        have HT := hide (show xs.take k = xs by rw [HN.out]; exact List.take_length)
        rw [HT.out] at bd0 bd1 ⊢
        have hls : sumLen xs < lost := HLS.out
        go_wp2_with fail
        go_ret
        exact ⟨rfl, HX2.out.trans ⟨p, rfl⟩⟩
  · subst h3 h4
    have q1 : (code == 3) = false := by simp only [beq_eq_false_iff_ne, ne_eq]; exact h1
    have q2 : (code == 0) = false := by simp only [beq_eq_false_iff_ne, ne_eq]; exact h2
    clear h1 h2
    go_wp2_with fail
    go_ret
    exact ⟨rfl, HX2.out⟩
  · have h12 : n ≤ 12 := by rw [HN.out]; exact (skipsB_ok hv).1
    have HV := hide (skipsB_ok hv).2
    have HVV := hide hv
    have HR := hide hr
    have HLB := hide (lenS_bd hv hr)
    have HSB := hide (lossS_bd hv hr)
    have H4 := hide h4
    have H5 := hide h5
    obtain ⟨m, hm⟩ : ∃ m, m = zs.length := ⟨_, rfl⟩
    have hm12 : m ≤ 12 := by
      rw [hm]
      have := hr.len
      have := HN.out
      omega
    have HM := hide hm
    have HB10 := hide (c_b10Rises A2 c2 zs n w2 (HN.out ▸ hr) (by rw [← hm]; omega) (by omega) HZ2.out)
    rw [← hm] at HB10
    rw [← hm]
    subst h1
    clear hm hv hr h4 h5
    go_wp2_with fail
    refine HB10.out.mono ?_
    rintro e w3 ⟨rfl, hx3⟩
    have HX3 := hide (HX2.out.trans hx3)
    have HRD3 := hide (HRD2.out.x hx3)
    have HZ3 := hide (HZ2.out.x hx3)
    clear hx3 HB10 HX2 HRD2 HZ2
    go_wp2_with fail
    go_loopw [11, 12, 13] (fun lv sv iv wr => ∃ k : Nat, k ≤ m ∧ iv = .int .i64 k ∧ lv = .int .i64 (sumF (lenS xs) (zs.take k)) ∧ sv = .int .i64 (sumF (lossS xs) (zs.take k)) ∧ IsX w3 wr) (fun _ _ iv _ => m - (intOf iv).toNat)
    case atStart => exact ⟨0, Nat.zero_le _, rfl, by simp [sumF], by simp [sumF], IsX.refl _⟩
    case round =>
      obtain ⟨k, hk, rfl, rfl, rfl, p, rfl⟩ := hrel
      have hbd := sumF_bd (f := lenS xs) (m := 1800000) (by omega) (ps := zs.take k) (fun p hp => HLB.out p (List.mem_of_mem_take hp))
      have hbd2 := sumF_bd (f := lossS xs) (m := 1000) (by omega) (ps := zs.take k) (fun p hp => HSB.out p (List.mem_of_mem_take hp))
      have hlk : (zs.take k).length ≤ k := List.length_take_le _ _
      obtain ⟨bd0, bd1⟩ := hbd
      obtain ⟨be0, be1⟩ := hbd2
      by_cases hlt : k < m
      · have hltx : k < zs.length := HM.out ▸ hlt
        obtain ⟨j, hj, hjn⟩ := HR.out.at_ hltx
        obtain ⟨b, off, e, hb, c0⟩ := int_rd HZ3.out (show zs[k]? = some zs[k] from List.getElem?_eq_getElem _)
        subst e
        rw [hj] at c0
        obtain ⟨b2, off2, e, hb2, d0, d1, d2⟩ := SkipD.rd HRD3.out (show xs[j]? = some xs[j] from List.getElem?_eq_getElem _)
        subst e
        obtain ⟨x0, x1, x2, x3, x4, x5, x6⟩ := HV.out _ (List.getElem_mem hjn)
        have HS := hide (show sumF (lenS xs) (zs.take (k + 1)) = sumF (lenS xs) (zs.take k) + xs[j].Length by rw [sumF_take hltx, hj, lenS_at hjn])
        have HS2 := hide (show sumF (lossS xs) (zs.take (k + 1)) = sumF (lossS xs) (zs.take k) + xs[j].Loss by rw [sumF_take hltx, hj, lossS_at hjn])
        generalize sumF (lenS xs) (zs.take k) = SK at bd0 bd1 HS ⊢
        generalize sumF (lossS xs) (zs.take k) = SL at be0 be1 HS2 ⊢
        generalize xs[j] = x at d0 d1 d2 x0 x1 x2 x3 x4 x5 x6 HS HS2
        have hjn' : (j : Int) < (n : Int) := by have := HN.out; omega
        clear hj
        go_wp2_with fail
        go_roundw
        case rel => exact ⟨k + 1, by omega, by go_num, by rw [HS.out], by rw [HS2.out], ⟨p, rfl⟩⟩
        case measure => simp [intOf]; omega
      · obtain rfl : k = m := by omega
        have HT := hide (show zs.take k = zs by rw [HM.out]; exact List.take_length)
        rw [HT.out] at bd0 bd1 be0 be1 ⊢
        have HAF := hide (c_AfterSkips A1 c1 xs A2 c2 zs (xt w3 p) HVV.out HWF.out HR.out (by rw [← HM.out]; omega) (HRD3.out.x ⟨p, rfl⟩) (HZ3.out.x ⟨p, rfl⟩))
        rw [← HN.out, ← HM.out] at HAF
        have h5 : lost ≤ sumF (lenS xs) zs := H5.out
        have hm4 : mo = sumF (lossS xs) zs := H4.out
        subst hm4
        generalize sumF (lenS xs) zs = SK at bd0 bd1 h5 HAF ⊢
        generalize sumF (lossS xs) zs = SL at be0 be1 ⊢
        go_wp2_with fail
        refine HAF.out.mono ?_
        rintro e w4 ⟨rfl, hx4⟩
        go_wp2_with fail
        go_ret
        exact ⟨by have := HM.out; simp [wrap64]; omega, (HX3.out.trans ⟨p, rfl⟩).trans hx4⟩
end Go.Proofs.Ytmilgbmkhbjjaaa
