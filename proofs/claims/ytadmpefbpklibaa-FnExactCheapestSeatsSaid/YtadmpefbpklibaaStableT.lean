/- The library's stable sort of a row of numbers: two sorted blocks merged where the second has one element. Conditions: the row is the call's own; the comparing closure answers as told and leaves what was there. -/
import Derived.Test.YtadmpefbpklibaaStableM
namespace Go.Proofs.Ytadmpefbpklibaa
set_option linter.unusedVariables false
open Go.RowKit Go.Sort

set_option maxHeartbeats 6400000 in
set_option maxRecDepth 100000 in
theorem c_symTwo (pr : Int → Int) (ok : Int → Prop) (bx : Nat) (P U S : List Int) (v : Int) (a m b N c g : Nat) (w0 w : World) (hcmp : CmpOk pr ok bx w0) (ha : a = P.length) (hm : m = P.length + U.length) (hb : b = P.length + U.length + 1) (h2 : 2 ≤ U.length)
    (hU : Srt pr U) (hlt : ∀ u ∈ U, u < v) (hokv : ok v) (hok : ∀ x ∈ U, ok x) (hN : N ≤ 1099511627776) (h : RowAt g N c w0 w (P ++ (U ++ v :: S))) :
    Calls Try.prog 49 #[.slice (some ⟨g, 0, none⟩) N c, .int .i64 (a : Int), .int .i64 (m : Int), .int .i64 (b : Int), .func (.func 23) #[] #[.pointer (some ⟨bx, 0, none⟩)]] w (BlockPost pr g N c w0 P (U ++ [v]) S) := by
  have hbN : b ≤ N := by have := h.len; simp at this; omega
  obtain ⟨L, hL⟩ : ∃ L, L = P ++ (U ++ v :: S) := ⟨_, rfl⟩
  have HDM : Hid (L.getD m 0 = v) := hide (by rw [hL, show P ++ (U ++ v :: S) = (P ++ U) ++ v :: S by simp, List.getD_eq_getElem?_getD, get_mid (by simp; omega)]; rfl)
  have HDU : Hid (∀ k (h : k < U.length), L.getD (a + k) 0 = U[k]) := hide (fun k hk => by
    rw [hL, dat_mid (by omega) (by omega), show a + k - P.length = k by omega, getD_at hk])
  have HMONO : Hid (Mono (qTwo pr L m) a m) := hide (fun k k' h1 h2 h3 hq => by
    obtain ⟨i, rfl⟩ : ∃ i, k' = a + i := ⟨k' - a, by omega⟩
    obtain ⟨j, rfl⟩ : ∃ j, k = a + j := ⟨k - a, by omega⟩
    simp only [qTwo, Bool.not_eq_true', decide_eq_false_iff_not] at hq ⊢
    rw [HDU.out j (by omega)] at hq
    rw [HDU.out i (by omega)]
    have := srt_le hU (show i ≤ j by omega) (show j < U.length by omega)
    rw [getD_at (by omega), getD_at (by omega)] at this
    omega)
  have HOK : Hid (∀ k, a ≤ k → k < m → ok (L.getD k 0)) := hide (fun k h1 h2 => by
    obtain ⟨i, rfl⟩ : ∃ i, k = a + i := ⟨k - a, by omega⟩
    rw [HDU.out i (by omega)]; exact hok _ (List.getElem_mem _))
  have HOM : Hid (ok (L.getD m 0)) := hide (by rw [HDM.out]; exact hokv)
  have HR := hide (hL ▸ h)
  have HU := hide hU
  have HLT := hide hlt
  have HCMP := hide hcmp
  have HPL := hide ha
  obtain ⟨lu, hlu⟩ : ∃ lu, lu = U.length := ⟨_, rfl⟩
  have HLU := hide hlu
  have HUL : Hid (m = a + U.length) := hide (by omega)
  have HL := hide hL
  have ham : a ≤ m := by omega
  have hmN : m < N := by omega
  have e1 : (m : Int) - (a : Int) = (lu : Int) := by omega
  have e2 : (b : Int) - (m : Int) = 1 := by omega
  have e3 : ((lu : Int) == 1) = false := by simp; omega
  have hluN : lu ≤ N := by omega
  clear h hL hU hlt hok hokv hcmp ha hm hb hlu h2
  go_enter Try.func49, Try.ntmps49
  go_wp2_with fail
  clear e1 e2 e3
  go_loopw [14, 15] (fun iv jv wr => ∃ i j : Nat, i ≤ j ∧ j ≤ m ∧ a ≤ i ∧ iv = .int .i64 (i : Int) ∧ jv = .int .i64 (j : Int) ∧ Hid (Srch (qTwo pr L m) a m i j) ∧ Hid (RowAt g N c w0 wr L)) (fun iv jv _ => (intOf jv).toNat - (intOf iv).toNat)
  case atStart => exact ⟨a, m, by omega, Nat.le_refl _, Nat.le_refl _, rfl, rfl, hide (Srch.start (by omega)), HR⟩
  case round =>
    clear HR
    obtain ⟨i, j, hij, hjh, hli, rfl, rfl, HSR, HRW⟩ := hrel
    by_cases hlt : i < j
    · obtain ⟨h, hh⟩ : ∃ h, h = (i + j) / 2 := ⟨_, rfl⟩
      have thh : ((i : Int) + (j : Int)) / 2 = (h : Int) := by omega
      have hi1 : i ≤ h := by omega
      have hi2 : h < j := by omega
      clear hh
      have c0 := HRW.out.dat (k := m) (by omega)
      have c1 := HRW.out.dat (k := h) (by omega)
      have hlg := HRW.out.lt
      have HC := hide (fun W (hW : IsX wr W) => HCMP.out W (HRW.out.1.trans hW) (L.getD (m) 0) (L.getD (h) 0) HOM.out (HOK.out _ (by omega) (by omega)))
      by_cases hcv : pr (L.getD (m) 0) < pr (L.getD (h) 0)
      · have hcl := cmp_lt hcv
        have HS2 := hide (HSR.out.down HMONO.out hi1 hi2 (show (qTwo pr L m) h = false by unfold qTwo; simpa using hcv))
        clear hcv
        generalize Lib.compareInt (pr (L.getD (m) 0)) (pr (L.getD (h) 0)) = cv at hcl HC
        generalize L.getD (m) 0 = dx at *
        generalize L.getD (h) 0 = dy at *
        replace hcl : decide (cv < 0) = true := decide_eq_true hcl
        go_wp2_with fail
        refine wp_region_x (by kernel_rfl) (by kernel_rfl) ?_
        repeat (go_big_quiet_step ((go_at_call 23; exact call_x (HC.out _ ⟨_, rfl⟩))))
        refine wpQuiet_nil ?_
        rintro _ ⟨p0, rfl⟩
        clear c0 c1 hlg HC
        go_wp2_with fail
        go_roundw
        case rel => exact ⟨i, h, by omega, by omega, by omega, rfl, rfl, HS2, hide (HRW.out.x ⟨p0, rfl⟩)⟩
        case measure => simp [intOf]; omega
      · have hcl := cmp_ge hcv
        have HS2 := hide (HSR.out.up HMONO.out hi1 hi2 (show (qTwo pr L m) h = true by unfold qTwo; simpa using hcv))
        clear hcv
        generalize Lib.compareInt (pr (L.getD (m) 0)) (pr (L.getD (h) 0)) = cv at hcl HC
        generalize L.getD (m) 0 = dx at *
        generalize L.getD (h) 0 = dy at *
        replace hcl : decide (cv < 0) = false := decide_eq_false hcl
        go_wp2_with fail
        refine wp_region_x (by kernel_rfl) (by kernel_rfl) ?_
        repeat (go_big_quiet_step ((go_at_call 23; exact call_x (HC.out _ ⟨_, rfl⟩))))
        refine wpQuiet_nil ?_
        rintro _ ⟨p0, rfl⟩
        clear c0 c1 hlg HC
        go_wp2_with fail
        go_roundw
        case rel => exact ⟨h + 1, j, by omega, by omega, by omega, by go_num, rfl, HS2, hide (HRW.out.x ⟨p0, rfl⟩)⟩
        case measure => simp [intOf]; omega
    · obtain rfl : i = j := by omega
      obtain ⟨q, hq⟩ : ∃ q, q = i - a := ⟨_, rfl⟩
      have hqi : i = a + q := by omega
      have hqn : q ≤ U.length := by have := HUL.out; omega
      have HRES := hide (show Srt pr (U.take q ++ v :: U.drop q) from ins_srt HU.out
        (fun k hk hkq => by
          have := HSR.out.2.2.2.1 (a + k) (by omega) (by omega)
          simp only [qTwo, Bool.not_eq_true', decide_eq_false_iff_not] at this
          rw [HDU.out k hk, HDM.out] at this
          have h2 := HLT.out _ (List.getElem_mem hk)
          unfold Bef; omega)
        (fun k hk hkq => by
          have := HSR.out.2.2.2.2 (a + k) (by omega) (by have := HUL.out; omega)
          simp only [qTwo, Bool.not_eq_false', decide_eq_true_eq] at this
          rw [HDU.out k hk, HDM.out] at this
          exact .inl this))
      have HQI := hide hqi
      have HQN := hide hqn
      have HR : Hid (RowAt g N c w0 wr ((P ++ U.take U.length) ++ v :: (U.drop U.length ++ S))) := hide (by have h := HRW.out; rw [HL.out] at h; simpa using h)
      clear hq hqi hqn HSR HRW hij hjh hlt
      go_wp2_with fail
      go_loopw [17] (fun kv wr => ∃ r : Nat, q ≤ r ∧ r ≤ lu ∧ kv = .int .i64 ((a : Int) + (r : Int)) ∧ Hid (RowAt g N c w0 wr ((P ++ U.take r) ++ v :: (U.drop r ++ S)))) (fun kv _ => (intOf kv).toNat)
      case atStart => exact ⟨lu, by have := HLU.out; have := HQN.out; omega, Nat.le_refl _, by have := HLU.out; have := HUL.out; go_num, by rw [HLU.out]; exact HR⟩
      case round =>
        clear HR
        obtain ⟨r, hqr, hrl, rfl, HRW⟩ := hrel
        by_cases hlt : q < r
        · obtain ⟨r, rfl⟩ : ∃ r', r = r' + 1 := ⟨r - 1, by omega⟩
          have hru : r < U.length := by have := HLU.out; omega
          obtain ⟨z, hz⟩ : ∃ z, z = U[r] := ⟨_, rfl⟩
          have HZ1 := hide (show U.take (r + 1) = U.take r ++ [z] by rw [hz]; exact List.take_succ_eq_append_getElem hru)
          have HZ2 := hide (show U.drop r = z :: U.drop (r + 1) by rw [hz]; exact List.drop_eq_getElem_cons hru)
          have hrow := HRW.out
          rw [HZ1.out] at hrow
          have HR1 : Hid (RowAt g N c w0 wr ((P ++ U.take r) ++ z :: v :: (U.drop (r + 1) ++ S))) := hide (by simpa using hrow)
          obtain ⟨ja, hja⟩ : ∃ ja, ja = a + r := ⟨_, rfl⟩
          obtain ⟨jb, hjb⟩ : ∃ jb, jb = ja + 1 := ⟨_, rfl⟩
          have HQL : Hid (ja = (P ++ U.take r).length) := hide (by have := HPL.out; simp; omega)
          have HQM : Hid (jb = (P ++ U.take r).length + 1) := hide (by have := HQL.out; omega)
          have c0 := HR1.out.cell (k := ja) (get_mid HQL.out)
          have c1 := HR1.out.cell (k := jb) (show _ = some v from get_mid2 (M := []) (by rw [HQM.out]; simp))
          have z0 := HR1.out.fz ja
          have z1 := HR1.out.fz jb
          have hlg := HR1.out.lt
          have ta : ((a : Int) + ((r + 1 : Nat) : Int)) = (jb : Int) := by omega
          have tb : (jb : Int) - 1 = (ja : Int) := by omega
          have hll : (i : Int) < (jb : Int) := by have := HQI.out; omega
          have ba : ja < N := by have := HLU.out; have := HUL.out; omega
          have bb : jb < N := by have := HLU.out; have := HUL.out; omega
          have hne : jb ≠ ja := by omega
          have HJA := hide hja
          rw [ta]
          have HTA := hide ta
          clear hrow hja hjb ta HRW hz
          go_wp2_with fail
          go_region
          have HR3 := hide ((HR1.out.swap' HQL.out HQM.out).x (IsX.drew (IsX.refl _)))
          clear c0 c1 z0 z1 hlg HR1
          go_wp2_with fail
          go_roundw
          case rel => exact ⟨r, by omega, by omega, by rw [HJA.out]; go_num, hide (by rw [HZ2.out]; have := HR3.out; simp at this ⊢; exact this)⟩
          case measure => have := HJA.out; simp [intOf]; omega
        · obtain rfl : r = q := by omega
          have hll : ¬ ((i : Int) < (a : Int) + (r : Int)) := by have := HQI.out; omega
          have HF := hide (show RowAt g N c w0 wr (P ++ ((U.take r ++ v :: U.drop r) ++ S)) by have := HRW.out; simpa using this)
          go_wp2_with fail
          go_end0
          exact ⟨rfl, _, (ins_perm U v r).trans (List.perm_append_comm (l₁ := [v])), HRES.out, HF.out⟩

end Go.Proofs.Ytadmpefbpklibaa
