/- The library's stable sort of a row of numbers: two sorted blocks merged, of two elements at least. Conditions: the row is the call's own; the comparing closure answers as told and leaves what was there. -/
import Derived.Test.YtadmpefbpklibaaStableG
import Derived.Deep.DeepCutAuto
import Derived.Deep.CutRange
namespace Go.Proofs.Ytadmpefbpklibaa
set_option linter.unusedVariables false
open Go.RowKit Go.Sort

set_option maxHeartbeats 12800000 in
set_option maxRecDepth 100000 in
theorem c_symMore (pr : Int → Int) (ok : Int → Prop) (bx N c g : Nat) (w0 : World) (K : Nat) (hcmp : CmpOk pr ok bx w0) (hN : N ≤ 1099511627776) (ih : SymFor pr ok bx N c g w0 K) (P U V S : List Int) (a m b : Nat) (w : World) (hsz : U.length + V.length ≤ K + 1) (h2 : 2 ≤ U.length) (h3 : 2 ≤ V.length)
    (ha : a = P.length) (hm : m = P.length + U.length) (hb : b = P.length + U.length + V.length) (hU : Srt pr U) (hV : Srt pr V) (hlt : ∀ u ∈ U, ∀ v ∈ V, u < v) (hok : ∀ x ∈ U ++ V, ok x) (h : RowAt g N c w0 w (P ++ (U ++ (V ++ S)))) :
    Calls Try.prog 49 #[.slice (some ⟨g, 0, none⟩) N c, .int .i64 (a : Int), .int .i64 (m : Int), .int .i64 (b : Int), .func (.func 23) #[] #[.pointer (some ⟨bx, 0, none⟩)]] w (BlockPost pr g N c w0 P (U ++ V) S) := by
  have hbN : b ≤ N := by have := h.len; simp at this; omega
  obtain ⟨L, hL⟩ : ∃ L, L = P ++ (U ++ (V ++ S)) := ⟨_, rfl⟩
  have HOKD : Hid (∀ k, a ≤ k → k < b → ok (L.getD k 0)) := hide (fun k h1 h2 => by
    rw [hL]
    by_cases hk : k < m
    · rw [dat_mid (by omega) (by omega)]; exact hok _ (List.mem_append.2 (.inl (getD_mem (by omega))))
    · rw [dat_mid2 (by omega) (by omega)]; exact hok _ (List.mem_append.2 (.inr (getD_mem (by omega)))))
  obtain ⟨mid, hmid⟩ : ∃ mid, mid = (a + b) / 2 := ⟨_, rfl⟩
  obtain ⟨nn, hnn⟩ : ∃ nn, nn = mid + m := ⟨_, rfl⟩
  obtain ⟨p, hp⟩ : ∃ p, p = nn - 1 := ⟨_, rfl⟩
  obtain ⟨st, hst⟩ : ∃ st, st = if mid < m then mid + m - b else a := ⟨_, rfl⟩
  obtain ⟨rr, hrr⟩ : ∃ rr, rr = if mid < m then mid else m := ⟨_, rfl⟩
  obtain ⟨lu, hlu⟩ : ∃ lu, lu = U.length := ⟨_, rfl⟩
  obtain ⟨lv, hlv⟩ : ∃ lv, lv = V.length := ⟨_, rfl⟩
  have hcase : SCase a m b mid st rr := by
    unfold SCase
    by_cases hc : mid < m
    · left; rw [hst, hrr, if_pos hc, if_pos hc]; omega
    · right; rw [hst, hrr, if_neg hc, if_neg hc]; exact ⟨hc, rfl, rfl⟩
  have HCASE := hide hcase
  have hbd : a ≤ st ∧ st ≤ rr ∧ rr ≤ m ∧ rr ≤ mid ∧ mid + m ≤ b + st := by
    rcases hcase with ⟨q1, q2, q3⟩ | ⟨q1, q2, q3⟩ <;> omega
  have HMONO := hide (sym_mono (p := p) hL ha (by omega) (by omega) hU hV (by omega) (by omega) hmid hcase (by omega))
  have HPP := hide (show p + 1 = nn ∧ nn = mid + m ∧ a ≤ st ∧ st ≤ rr ∧ rr ≤ m ∧ rr ≤ mid ∧ mid + m ≤ b + st ∧ a < m ∧ m < b ∧ mid < b from by omega)
  have HPM := hide (show p + 1 = mid + m by omega)
  have HMID := hide (show mid = (a + b) / 2 ∧ a < m ∧ m < b from by omega)
  have HUL := hide (show m = a + U.length by omega)
  have HVL := hide (show b = m + V.length by omega)
  have HPL := hide ha
  have HSZ := hide hsz
  have HOK := hide hok
  have HU := hide hU
  have HV := hide hV
  have HLT := hide hlt
  have HCMP := hide hcmp
  have HL := hide hL
  have IH := hide ih
  have HR := hide (hL ▸ h)
  have e1 : (m : Int) - (a : Int) = (lu : Int) := by omega
  have e2 : (b : Int) - (m : Int) = (lv : Int) := by omega
  have e3 : ((lu : Int) == 1) = false := by simp; omega
  have e4 : ((lv : Int) == 1) = false := by simp; omega
  have e5 : ((a : Int) + (b : Int)) / 2 = (mid : Int) := by omega
  have e6 : (mid : Int) + (m : Int) = (nn : Int) := by omega
  have e7 : (nn : Int) - 1 = (p : Int) := by omega
  have hluN : lu ≤ N := by omega
  have hlvN : lv ≤ N := by omega
  have hmN : m ≤ N := by omega
  have haN : a ≤ N := by omega
  have hmidN : mid ≤ N := by omega
  have hnnN : nn ≤ 2199023255552 := by omega
  have hpN : p ≤ 2199023255552 := by omega
  have hstr : st ≤ rr := hbd.2.1
  have hrrN : rr ≤ N := by omega
  have HST := hide (show (mid < m → (nn : Int) - (b : Int) = (st : Int) ∧ rr = mid) ∧ (¬ mid < m → a = st ∧ m = rr) from by
    rcases hcase with ⟨q1, q2, q3⟩ | ⟨q1, q2, q3⟩
    · exact ⟨fun _ => ⟨by omega, q3⟩, fun h => absurd q1 h⟩
    · exact ⟨fun h => absurd h q1, fun _ => ⟨q2.symm, q3.symm⟩⟩)
  clear hcase hbd hmid hnn hp hst hrr hlu hlv h hL hU hV hlt hok hcmp ih ha hm hb hsz h2 h3
  go_enter Try.func49, Try.ntmps49
  go_upto_region 27 with fail
  clear e1 e2 e3 e4 e5 e6
  go_cut [140] from 138 to 140 (fun s140 wc => s140 = .bool (decide (mid < m)) ∧ wc = w)
  case first =>
    go_wp2_with fail
    go_meet
    exact ⟨by first | rfl | simp, rfl⟩
  obtain ⟨rfl, rfl⟩ := hcut
  go_upto_if 140 with fail
  go_cut [20, 21] from 140 to 146 (fun s20 s21 wc => s20 = .int .i64 (st : Int) ∧ s21 = .int .i64 (rr : Int) ∧ Hid (RowAt g N c w0 wc L))
  case first =>
    by_cases hmm : mid < m
    · have hmd : decide (mid < m) = true := decide_eq_true hmm
      obtain ⟨q1, q2⟩ := HST.out.1 hmm
      have Q2 := hide q2
      clear q2
      go_wp2_with fail
      go_meet
      exact ⟨by first | rfl | go_num, by rw [Q2.out], HR⟩
    · have hmd : decide (mid < m) = false := decide_eq_false hmm
      have Q := hide (HST.out.2 hmm)
      go_wp2_with fail
      go_meet
      exact ⟨by rw [Q.out.1], by rw [Q.out.2], HR⟩
  case rest =>
    obtain ⟨rfl, rfl, HR2⟩ := hcut
    have HR := hide HR2.out
    clear HR2
    go_wp2_with fail
    clear e7
    go_loopw [20, 21] (fun iv jv wr => ∃ i j : Nat, i ≤ j ∧ j ≤ rr ∧ st ≤ i ∧ iv = .int .i64 (i : Int) ∧ jv = .int .i64 (j : Int) ∧ Hid (Srch (qCut pr L p) st rr i j) ∧ Hid (RowAt g N c w0 wr L)) (fun iv jv _ => (intOf jv).toNat - (intOf iv).toNat)
    case atStart => exact ⟨st, rr, by omega, Nat.le_refl _, Nat.le_refl _, rfl, rfl, hide (Srch.start (by omega)), HR⟩
    case round =>
      clear HR
      obtain ⟨i, j, hij, hjh, hli, rfl, rfl, HSR, HRW⟩ := hrel
      by_cases hlt : i < j
      · obtain ⟨h, hh⟩ : ∃ h, h = (i + j) / 2 := ⟨_, rfl⟩
        have thh : ((i : Int) + (j : Int)) / 2 = (h : Int) := by omega
        have hi1 : i ≤ h := by omega
        have hi2 : h < j := by omega
        clear hh
        obtain ⟨k, hk⟩ : ∃ k, k = p - h := ⟨_, rfl⟩
        have tk : (p : Int) - (h : Int) = (k : Int) := by have := HPP.out; omega
        have hka : a ≤ k ∧ k < b := by have := HPP.out; omega
        have hha : a ≤ h ∧ h < b := by have := HPP.out; omega
        have HK := hide hk
        clear hk
        have c0 := HRW.out.dat (k := k) (by omega)
        have c1 := HRW.out.dat (k := h) (by omega)
        have hlg := HRW.out.lt
        have HC := hide (fun W (hW : IsX wr W) => HCMP.out W (HRW.out.1.trans hW) (L.getD (k) 0) (L.getD (h) 0) (HOKD.out _ hka.1 hka.2) (HOKD.out _ hha.1 hha.2))
        by_cases hcv : pr (L.getD (k) 0) < pr (L.getD (h) 0)
        · have hcl := cmp_lt hcv
          have HS2 := hide (HSR.out.down HMONO.out hi1 hi2 (show (qCut pr L p) h = false by unfold qCut; rw [← HK.out]; simpa using hcv))
          clear hcv
          generalize Lib.compareInt (pr (L.getD (k) 0)) (pr (L.getD (h) 0)) = cv at hcl HC
          generalize L.getD (k) 0 = dx at *
          generalize L.getD (h) 0 = dy at *
          replace hcl : decide (cv < 0) = true := decide_eq_true hcl
          go_wp2_with fail
          refine wp_region_x (by kernel_rfl) (by kernel_rfl) ?_
          repeat (go_big_quiet_step ((go_at_call 23; exact call_x (HC.out _ ⟨_, rfl⟩))))
          refine wpQuiet_nil ?_
          rintro _ ⟨p0, rfl⟩
          clear c0 c1 hlg HC
          go_wp2_with fail
          go_roundw
          case rel => exact ⟨i, h, by omega, by omega, by omega, rfl, rfl, HS2, hide (HRW.out.x ⟨p0, rfl⟩)⟩
          case measure => simp [intOf]; omega
        · have hcl := cmp_ge hcv
          have HS2 := hide (HSR.out.up HMONO.out hi1 hi2 (show (qCut pr L p) h = true by unfold qCut; rw [← HK.out]; simpa using hcv))
          clear hcv
          generalize Lib.compareInt (pr (L.getD (k) 0)) (pr (L.getD (h) 0)) = cv at hcl HC
          generalize L.getD (k) 0 = dx at *
          generalize L.getD (h) 0 = dy at *
          replace hcl : decide (cv < 0) = false := decide_eq_false hcl
          go_wp2_with fail
          refine wp_region_x (by kernel_rfl) (by kernel_rfl) ?_
          repeat (go_big_quiet_step ((go_at_call 23; exact call_x (HC.out _ ⟨_, rfl⟩))))
          refine wpQuiet_nil ?_
          rintro _ ⟨p0, rfl⟩
          clear c0 c1 hlg HC
          go_wp2_with fail
          go_roundw
          case rel => exact ⟨h + 1, j, by omega, by omega, by omega, by go_num, rfl, HS2, hide (HRW.out.x ⟨p0, rfl⟩)⟩
          case measure => simp [intOf]; omega
      · obtain rfl : i = j := by omega
        have HRW2 := hide HRW.out
        have HS := hide (HSR.out)
        clear HSR HRW hij hjh hli hlt
        obtain ⟨U1, U2, V1, V2, hU12, hV12, l1, l2, l3, l4, hJ⟩ := sym_split HL.out HPL.out HUL.out HVL.out HU.out HV.out HLT.out HMID.out HCASE.out HPM.out HS.out
        obtain ⟨ee, hee⟩ : ∃ ee, ee = mid + m - i := ⟨_, rfl⟩
        have tee : (nn : Int) - (i : Int) = (ee : Int) := by have := HPP.out; omega
        have HJ := hide hJ
        have HLE := hide (show a + U1.length = i ∧ i + U2.length = m ∧ m + V1.length = ee ∧ ee + V2.length = b ∧ i + V1.length = mid from by omega)
        have HUU := hide (show Srt pr U1 ∧ Srt pr U2 ∧ Srt pr V1 ∧ Srt pr V2 from by
          have h1 := HU.out; have h2 := HV.out
          rw [hU12] at h1; rw [hV12] at h2
          exact ⟨(List.pairwise_append.1 h1).1, (List.pairwise_append.1 h1).2.1, (List.pairwise_append.1 h2).1, (List.pairwise_append.1 h2).2.1⟩)
        have HMEM := hide (show (∀ x ∈ U1, x ∈ U) ∧ (∀ x ∈ U2, x ∈ U) ∧ (∀ x ∈ V1, x ∈ V) ∧ (∀ x ∈ V2, x ∈ V) from by
          rw [hU12, hV12]; exact ⟨fun x h => List.mem_append.2 (.inl h), fun x h => List.mem_append.2 (.inr h), fun x h => List.mem_append.2 (.inl h), fun x h => List.mem_append.2 (.inr h)⟩)
        have HR : Hid (RowAt g N c w0 wr (P ++ (U1 ++ (U2 ++ (V1 ++ (V2 ++ S)))))) := hide (by have h := HRW2.out; rw [HL.out, hU12, hV12] at h; simpa using h)
        have heb : ee ≤ N := by have := HLE.out; omega
        have hib : i ≤ N := by have := HLE.out; omega
        clear hU12 hV12 l1 l2 l3 l4 hJ hee HRW2 HS
        go_upto_region 39 with fail
        clear tee
        obtain ⟨t1, ht1⟩ : ∃ t : Bool, t = decide (i < m ∧ m < ee) := ⟨_, rfl⟩
        have HT1 := hide ht1
        clear ht1
        go_cut [185] from 178 to 185 (fun s wc => s = .bool t1 ∧ wc = wr)
        case first =>
          by_cases k1 : i < m
          · by_cases k2 : m < ee
            · go_wp2_with fail
              go_meet
              exact ⟨by rw [HT1.out]; simp [k1, k2], rfl⟩
            · go_wp2_with fail
              go_meet
              exact ⟨by rw [HT1.out]; simp [k1, k2], rfl⟩
          · go_wp2_with fail
            go_meet
            exact ⟨by rw [HT1.out]; simp [k1], rfl⟩
        obtain ⟨rfl, rfl⟩ := hcut
        go_upto_if 185 with fail
        go_cut [191] from 185 to 191 (fun _ wc => Hid (RowAt g N c w0 wc (P ++ (U1 ++ (V1 ++ (U2 ++ (V2 ++ S)))))))
        case first =>
          cases t1
          rotate_left
          · have kk : i < m ∧ m < ee := of_decide_eq_true HT1.out.symm
            have HC := hide (fun wq (hq : RowAt g N c w0 wq (P ++ (U1 ++ (U2 ++ (V1 ++ (V2 ++ S)))))) => c_rotate (.func (.func 23) #[] #[.pointer (some ⟨bx, 0, none⟩)]) (P ++ U1) U2 V1 (V2 ++ S) i m ee N c g w0 wq (by have := HLE.out; have := HPL.out; simp; omega) (by have := HLE.out; have := HPL.out; simp; omega) (by have := HLE.out; have := HPL.out; simp; omega) (by have := HLE.out; omega) (by have := HLE.out; omega) hN (by simpa using hq))
            clear kk
            go_wp2_with (go_at_call 61; refine (HC.out _ HR.out).mono ?_; rintro e w2 ⟨rfl, hr2⟩; have HR2 := hide hr2; clear hr2)
            go_meet
            exact hide (by simpa using HR2.out)
          · have kk : ¬ (i < m ∧ m < ee) := of_decide_eq_false HT1.out.symm
            have h0 : U2 = [] ∨ V1 = [] := by
              by_cases k1 : i < m
              · right; exact List.eq_nil_of_length_eq_zero (by have := HLE.out; omega)
              · left; exact List.eq_nil_of_length_eq_zero (by have := HLE.out; omega)
            have HR2 := hide (show ∀ wq, RowAt g N c w0 wq (P ++ (U1 ++ (U2 ++ (V1 ++ (V2 ++ S))))) → RowAt g N c w0 wq (P ++ (U1 ++ (V1 ++ (U2 ++ (V2 ++ S))))) from fun wq h => by
              rcases h0 with h0 | h0 <;> rw [h0] at h ⊢ <;> exact h)
            clear kk h0
            go_wp2_with fail
            go_meet
            exact hide (HR2.out _ HR.out)
        have HR2 := hide hcut.out
        clear hcut HR
        go_upto_region 41 with fail
        obtain ⟨t2, ht2⟩ : ∃ t : Bool, t = decide (a < i ∧ i < mid) := ⟨_, rfl⟩
        have HT2 := hide ht2
        clear ht2
        go_cut [199] from 192 to 199 (fun s wd => s = .bool t2 ∧ Hid (RowAt g N c w0 wd (P ++ (U1 ++ (V1 ++ (U2 ++ (V2 ++ S)))))))
        case first =>
          by_cases k1 : a < i
          · by_cases k2 : i < mid
            · go_wp2_with fail
              go_meet
              exact ⟨by rw [HT2.out]; simp [k1, k2], HR2⟩
            · go_wp2_with fail
              go_meet
              exact ⟨by rw [HT2.out]; simp [k1, k2], HR2⟩
          · go_wp2_with fail
            go_meet
            exact ⟨by rw [HT2.out]; simp [k1], HR2⟩
        clear HR2
        obtain ⟨rfl, HR2⟩ := hcut
        go_upto_if 199 with fail
        go_cut [205] from 199 to 205 (fun _ wd => ∃ Z1 : List Int, Hid (Z1.Perm (U1 ++ V1) ∧ Srt pr Z1 ∧ RowAt g N c w0 wd (P ++ (Z1 ++ (U2 ++ (V2 ++ S))))))
        case first =>
          cases t2
          rotate_left
          · have kk : a < i ∧ i < mid := of_decide_eq_true HT2.out.symm
            have HC := hide (fun W hW => IH.out P U1 V1 (U2 ++ (V2 ++ S)) a i mid W (by have := HLE.out; have := HSZ.out; have := HUL.out; have := HVL.out; have := HPP.out; omega) (by have := HLE.out; omega) (by have := HLE.out; omega) HPL.out (by have := HLE.out; have := HPL.out; omega) (by have := HLE.out; have := HPL.out; omega) HUU.out.1 HUU.out.2.2.1 (fun u hu v hv => HLT.out u (HMEM.out.1 u hu) v (HMEM.out.2.2.1 v hv)) (fun x hx => by
                rcases List.mem_append.1 hx with hx | hx
                · exact HOK.out x (List.mem_append.2 (.inl (HMEM.out.1 x hx)))
                · exact HOK.out x (List.mem_append.2 (.inr (HMEM.out.2.2.1 x hx)))) hW)
            clear kk
            go_wp2_with (go_at_call 49; refine (HC.out _ HR2.out).mono ?_; rintro e w2 ⟨rfl, Z1, z1, z2, z3⟩; have HZ := hide (show _ ∧ _ ∧ _ from ⟨z1, z2, z3⟩); clear z1 z2 z3)
            go_meet
            exact ⟨Z1, HZ⟩
          · have kk : ¬ (a < i ∧ i < mid) := of_decide_eq_false HT2.out.symm
            have HZ := hide (show ∀ wq, RowAt g N c w0 wq (P ++ (U1 ++ (V1 ++ (U2 ++ (V2 ++ S))))) → ((U1 ++ V1).Perm (U1 ++ V1) ∧ Srt pr (U1 ++ V1) ∧ RowAt g N c w0 wq (P ++ ((U1 ++ V1) ++ (U2 ++ (V2 ++ S))))) from fun wq h => ⟨List.Perm.refl _, by
              by_cases k1 : a < i
              · have h0 : V1 = [] := List.eq_nil_of_length_eq_zero (by have := HLE.out; omega)
                rw [h0, List.append_nil]; exact HUU.out.1
              · have h0 : U1 = [] := List.eq_nil_of_length_eq_zero (by have := HLE.out; omega)
                rw [h0, List.nil_append]; exact HUU.out.2.2.1, by simpa using h⟩)
            clear kk
            go_wp2_with fail
            go_meet
            exact ⟨_, hide (HZ.out _ HR2.out)⟩
        clear HR2
        obtain ⟨Z1, HZ⟩ := hcut
        have hzl := HZ.out.1.length_eq
        rw [List.length_append] at hzl
        have HZL := hide hzl
        clear hzl
        by_cases k1 : mid < ee
        · by_cases k2 : ee < b
          · have HC := hide (fun W hW => IH.out (P ++ Z1) U2 V2 S mid ee b W (by have := HMID.out; have := HLE.out; have := HSZ.out; have := HUL.out; have := HVL.out; have := HPP.out; omega) (by have := HLE.out; omega) (by have := HLE.out; omega) (by have := HLE.out; have := HPL.out; have := HZL.out; simp; omega) (by have := HLE.out; have := HPL.out; have := HZL.out; simp; omega) (by have := HLE.out; have := HPL.out; have := HZL.out; simp; omega) HUU.out.2.1 HUU.out.2.2.2 (fun u hu v hv => HLT.out u (HMEM.out.2.1 u hu) v (HMEM.out.2.2.2 v hv)) (fun x hx => by
                rcases List.mem_append.1 hx with hx | hx
                · exact HOK.out x (List.mem_append.2 (.inl (HMEM.out.2.1 x hx)))
                · exact HOK.out x (List.mem_append.2 (.inr (HMEM.out.2.2.2 x hx)))) hW)
            have HF2 := hide (show ∀ wq, RowAt g N c w0 wq (P ++ (Z1 ++ (U2 ++ (V2 ++ S)))) → RowAt g N c w0 wq ((P ++ Z1) ++ (U2 ++ (V2 ++ S))) from fun wq h => by simpa using h)
            go_wp2_with (go_at_call 49; refine (HC.out _ (HF2.out _ HZ.out.2.2)).mono ?_; rintro e w2 ⟨rfl, Z2, z1, z2, z3⟩; have HZ2 := hide (show _ ∧ _ ∧ _ from ⟨z1, z2, z3⟩); clear z1 z2 z3)
            go_end0
            have hj := HJ.out Z1 Z2 HZ.out.1 HZ2.out.1 HZ.out.2.1 HZ2.out.2.1
            exact ⟨rfl, Z1 ++ Z2, hj.2, hj.1, by simpa using HZ2.out.2.2⟩
          · have HF := hide (HJ.out Z1 (U2 ++ V2) HZ.out.1 (List.Perm.refl _) HZ.out.2.1 (by
              have h0 : V2 = [] := List.eq_nil_of_length_eq_zero (by have := HLE.out; omega)
              rw [h0, List.append_nil]; exact HUU.out.2.1))
            have HR3 := hide (show ∀ wq, RowAt g N c w0 wq (P ++ (Z1 ++ (U2 ++ (V2 ++ S)))) → RowAt g N c w0 wq (P ++ ((Z1 ++ (U2 ++ V2)) ++ S)) from fun wq h => by simpa using h)
            go_wp2_with fail
            go_end0
            exact ⟨rfl, _, HF.out.2, HF.out.1, HR3.out _ HZ.out.2.2⟩
        · have HF := hide (HJ.out Z1 (U2 ++ V2) HZ.out.1 (List.Perm.refl _) HZ.out.2.1 (by
            have h0 : U2 = [] := List.eq_nil_of_length_eq_zero (by have := HLE.out; omega)
            rw [h0, List.nil_append]; exact HUU.out.2.2.2))
          have HR3 := hide (show ∀ wq, RowAt g N c w0 wq (P ++ (Z1 ++ (U2 ++ (V2 ++ S)))) → RowAt g N c w0 wq (P ++ ((Z1 ++ (U2 ++ V2)) ++ S)) from fun wq h => by simpa using h)
          go_wp2_with fail
          go_end0
          exact ⟨rfl, _, HF.out.2, HF.out.1, HR3.out _ HZ.out.2.2⟩

end Go.Proofs.Ytadmpefbpklibaa
