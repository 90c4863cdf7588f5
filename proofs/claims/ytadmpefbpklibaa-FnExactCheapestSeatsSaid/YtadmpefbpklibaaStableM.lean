/- The library's stable sort of a row of numbers: two sorted blocks merged where one of them has one element. Conditions: the row is the call's own; the comparing closure answers as told and leaves what was there. -/
import Derived.Test.YtadmpefbpklibaaStableB
namespace Go.Proofs.Ytadmpefbpklibaa
set_option linter.unusedVariables false
open Go.RowKit Go.Sort

theorem RowAt.dat {g n c : Nat} {w0 w : World} {L : List Int} (h : RowAt g n c w0 w L) {k : Nat} (hk : k < n) : w.cell? ⟨g, k, none⟩ = some (.int .i64 (L.getD k 0)) :=
  h.cell (by have := h.len; rw [List.getD_eq_getElem?_getD, List.getElem?_eq_getElem (by omega)]; rfl)
def qOne (pr : Int → Int) (L : List Int) (a : Nat) (k : Nat) : Bool := decide (pr (L.getD k 0) < pr (L.getD a 0))
def qTwo (pr : Int → Int) (L : List Int) (m : Nat) (k : Nat) : Bool := !decide (pr (L.getD m 0) < pr (L.getD k 0))
def qCut (pr : Int → Int) (L : List Int) (p : Nat) (k : Nat) : Bool := !decide (pr (L.getD (p - k) 0) < pr (L.getD k 0))
theorem getD_at {X : List Int} {k : Nat} (h : k < X.length) : X.getD k 0 = X[k] := by rw [List.getD_eq_getElem?_getD, List.getElem?_eq_getElem h]; rfl

set_option maxHeartbeats 6400000 in
set_option maxRecDepth 100000 in
theorem c_symOne (pr : Int → Int) (ok : Int → Prop) (bx : Nat) (P V S : List Int) (u : Int) (a m b N c g : Nat) (w0 w : World) (hcmp : CmpOk pr ok bx w0) (ha : a = P.length) (hm : m = P.length + 1) (hb : b = P.length + 1 + V.length)
    (hV : Srt pr V) (hlt : ∀ v ∈ V, u < v) (hoku : ok u) (hok : ∀ x ∈ V, ok x) (hN : N ≤ 1099511627776) (h : RowAt g N c w0 w (P ++ u :: (V ++ S))) :
    Calls Try.prog 49 #[.slice (some ⟨g, 0, none⟩) N c, .int .i64 (a : Int), .int .i64 (m : Int), .int .i64 (b : Int), .func (.func 23) #[] #[.pointer (some ⟨bx, 0, none⟩)]] w (BlockPost pr g N c w0 P (u :: V) S) := by
  have hbN : b ≤ N := by have := h.len; simp at this; omega
  obtain ⟨L, hL⟩ : ∃ L, L = P ++ u :: (V ++ S) := ⟨_, rfl⟩
  have HDA : Hid (L.getD a 0 = u) := hide (by rw [hL, List.getD_eq_getElem?_getD, get_mid ha]; rfl)
  have HDV : Hid (∀ k (h : k < V.length), L.getD (m + k) 0 = V[k]) := hide (fun k hk => by
    rw [hL, show P ++ u :: (V ++ S) = (P ++ [u]) ++ (V ++ S) by simp, dat_mid (by simp; omega) (by simp; omega), show m + k - (P ++ [u]).length = k by simp; omega, getD_at hk])
  have HMONO : Hid (Mono (qOne pr L a) m b) := hide (fun k k' h1 h2 h3 hq => by
    obtain ⟨i, rfl⟩ : ∃ i, k' = m + i := ⟨k' - m, by omega⟩
    obtain ⟨j, rfl⟩ : ∃ j, k = m + j := ⟨k - m, by omega⟩
    simp only [qOne, decide_eq_true_eq] at hq ⊢
    rw [HDV.out j (by omega)] at hq
    rw [HDV.out i (by omega)]
    have := srt_le hV (show i ≤ j by omega) (show j < V.length by omega)
    rw [getD_at (by omega), getD_at (by omega)] at this
    omega)
  have HOK : Hid (∀ k, m ≤ k → k < b → ok (L.getD k 0)) := hide (fun k h1 h2 => by
    obtain ⟨i, rfl⟩ : ∃ i, k = m + i := ⟨k - m, by omega⟩
    rw [HDV.out i (by omega)]; exact hok _ (List.getElem_mem _))
  have HOA : Hid (ok (L.getD a 0)) := hide (by rw [HDA.out]; exact hoku)
  have HR := hide (hL ▸ h)
  have HV := hide hV
  have HLT := hide hlt
  have HCMP := hide hcmp
  have HPL := hide ha
  have HVL : Hid (b = m + V.length) := hide (by omega)
  have HL := hide hL
  have hma : m = a + 1 := by omega
  have hmb : m ≤ b := by omega
  have e1 : (m : Int) - (a : Int) = 1 := by omega
  have HMA := hide hma
  have haN : a < N := by omega
  have ham : a < m := by omega
  clear hma h hL hV hlt hok hoku hcmp ha hm hb
  go_enter Try.func49, Try.ntmps49
  go_wp2_with fail
  clear e1
  go_loopw [10, 11] (fun iv jv wr => ∃ i j : Nat, i ≤ j ∧ j ≤ b ∧ m ≤ i ∧ iv = .int .i64 (i : Int) ∧ jv = .int .i64 (j : Int) ∧ Hid (Srch (qOne pr L a) m b i j) ∧ Hid (RowAt g N c w0 wr L)) (fun iv jv _ => (intOf jv).toNat - (intOf iv).toNat)
  case atStart => exact ⟨m, b, by omega, Nat.le_refl _, Nat.le_refl _, rfl, rfl, hide (Srch.start (by omega)), HR⟩
  case round =>
    clear HR
    obtain ⟨i, j, hij, hjh, hli, rfl, rfl, HSR, HRW⟩ := hrel
    by_cases hlt : i < j
    · obtain ⟨h, hh⟩ : ∃ h, h = (i + j) / 2 := ⟨_, rfl⟩
      have thh : ((i : Int) + (j : Int)) / 2 = (h : Int) := by omega
      have hi1 : i ≤ h := by omega
      have hi2 : h < j := by omega
      clear hh
      have c0 := HRW.out.dat (k := h) (by omega)
      have c1 := HRW.out.dat (k := a) (by omega)
      have hlg := HRW.out.lt
      have HC := hide (fun W (hW : IsX wr W) => HCMP.out W (HRW.out.1.trans hW) (L.getD (h) 0) (L.getD (a) 0) (HOK.out _ (by omega) (by omega)) HOA.out)
      by_cases hcv : pr (L.getD (h) 0) < pr (L.getD (a) 0)
      · have hcl := cmp_lt hcv
        have HS2 := hide (HSR.out.up HMONO.out hi1 hi2 (show (qOne pr L a) h = true by unfold qOne; simpa using hcv))
        clear hcv
        generalize Lib.compareInt (pr (L.getD (h) 0)) (pr (L.getD (a) 0)) = cv at hcl HC
        generalize L.getD (h) 0 = dx at *
        generalize L.getD (a) 0 = dy at *
        go_wp2_with fail
        refine wp_region_x (by kernel_rfl) (by kernel_rfl) ?_
        repeat (go_big_quiet_step ((go_at_call 23; exact call_x (HC.out _ ⟨_, rfl⟩))))
        refine wpQuiet_nil ?_
        rintro _ ⟨p0, rfl⟩
        clear c0 c1 hlg HC
        go_wp2_with fail
        go_roundw
        case rel => exact ⟨h + 1, j, by omega, by omega, by omega, by go_num, rfl, HS2, hide (HRW.out.x ⟨p0, rfl⟩)⟩
        case measure => simp [intOf]; omega
      · have hcl := cmp_ge hcv
        have HS2 := hide (HSR.out.down HMONO.out hi1 hi2 (show (qOne pr L a) h = false by unfold qOne; simpa using hcv))
        clear hcv
        generalize Lib.compareInt (pr (L.getD (h) 0)) (pr (L.getD (a) 0)) = cv at hcl HC
        generalize L.getD (h) 0 = dx at *
        generalize L.getD (a) 0 = dy at *
        go_wp2_with fail
        refine wp_region_x (by kernel_rfl) (by kernel_rfl) ?_
        repeat (go_big_quiet_step ((go_at_call 23; exact call_x (HC.out _ ⟨_, rfl⟩))))
        refine wpQuiet_nil ?_
        rintro _ ⟨p0, rfl⟩
        clear c0 c1 hlg HC
        go_wp2_with fail
        go_roundw
        case rel => exact ⟨i, h, by omega, by omega, by omega, rfl, rfl, HS2, hide (HRW.out.x ⟨p0, rfl⟩)⟩
        case measure => simp [intOf]; omega
    · obtain rfl : i = j := by omega
      have hma := HMA.out
      obtain ⟨q, hq⟩ : ∃ q, q = i - m := ⟨_, rfl⟩
      have hqi : i = m + q := by omega
      have hqn : q ≤ V.length := by have := HVL.out; omega
      have HRES := hide (show Srt pr (V.take q ++ u :: V.drop q) from ins_srt HV.out
        (fun k hk hkq => by
          have := HSR.out.2.2.2.1 (m + k) (by omega) (by omega)
          simp only [qOne, decide_eq_true_eq] at this
          rw [HDV.out k hk, HDA.out] at this
          exact .inl this)
        (fun k hk hkq => by
          have := HSR.out.2.2.2.2 (m + k) (by omega) (by have := HVL.out; omega)
          simp only [qOne, decide_eq_false_iff_not] at this
          rw [HDV.out k hk, HDA.out] at this
          have h2 := HLT.out _ (List.getElem_mem hk)
          unfold Bef; omega))
      have hlim : (i : Int) - 1 = ((a + q : Nat) : Int) := by omega
      obtain ⟨lim, hlm⟩ : ∃ lim, lim = a + q := ⟨_, rfl⟩
      rw [← hlm] at hlim
      have HLM := hide hlm
      have HQN := hide hqn
      have hlimN : lim < N := by have := HVL.out; omega
      have HR : Hid (RowAt g N c w0 wr ((P ++ V.take 0) ++ u :: (V.drop 0 ++ S))) := hide (by have h := HRW.out; rw [HL.out] at h; simpa using h)
      clear hq hqi hqn hlm HSR HRW hij hjh hlt
      go_wp2_with fail
      go_loopw [13] (fun kv wr => ∃ r : Nat, r ≤ q ∧ kv = .int .i64 ((a : Int) + (r : Int)) ∧ Hid (RowAt g N c w0 wr ((P ++ V.take r) ++ u :: (V.drop r ++ S)))) (fun kv _ => lim - (intOf kv).toNat)
      case atStart => exact ⟨0, Nat.zero_le _, by go_num, HR⟩
      case round =>
        clear HR
        obtain ⟨r, hrq, rfl, HRW⟩ := hrel
        by_cases hlt : r < q
        · have hrv : r < V.length := by have := HQN.out; omega
          obtain ⟨v, hv⟩ : ∃ v, v = V[r] := ⟨_, rfl⟩
          have HZ1 := hide (show V.take (r + 1) = V.take r ++ [v] by rw [hv]; exact List.take_succ_eq_append_getElem hrv)
          have HZ2 := hide (show V.drop r = v :: V.drop (r + 1) by rw [hv]; exact List.drop_eq_getElem_cons hrv)
          have hrow := HRW.out
          rw [HZ2.out] at hrow
          have HR1 : Hid (RowAt g N c w0 wr ((P ++ V.take r) ++ u :: ([] ++ v :: (V.drop (r + 1) ++ S)))) := hide (by simpa using hrow)
          obtain ⟨ja, hja⟩ : ∃ ja, ja = a + r := ⟨_, rfl⟩
          obtain ⟨jb, hjb⟩ : ∃ jb, jb = ja + 1 := ⟨_, rfl⟩
          have HQL : Hid (ja = (P ++ V.take r).length) := hide (by have := HPL.out; simp; omega)
          have HQM : Hid (jb = (P ++ V.take r).length + 1 + ([] : List Int).length) := hide (by have := HQL.out; simp at this ⊢; omega)
          have c0 := HR1.out.cell (get_mid HQL.out)
          have c1 := HR1.out.cell (get_mid2 HQM.out)
          have z0 := HR1.out.fz ja
          have z1 := HR1.out.fz jb
          have hlg := HR1.out.lt
          have ta : ((a : Int) + (r : Int)) = (ja : Int) := by omega
          have tb : (ja : Int) + 1 = (jb : Int) := by omega
          have hll : (ja : Int) < (lim : Int) := by have := HLM.out; omega
          have ba : ja < N := by omega
          have bb : jb < N := by omega
          have hne : ja ≠ jb := by omega
          have HJA := hide hja
          rw [ta]
          clear hrow hja hjb ta HRW hv
          go_wp2_with fail
          go_region
          have HR3 := hide ((HR1.out.x (IsX.drew (IsX.refl wr))).swap HQL.out HQM.out)
          clear c0 c1 z0 z1 hlg HR1
          go_wp2_with fail
          go_roundw
          case rel => exact ⟨r + 1, by omega, by have := HJA.out; go_num, hide (by rw [HZ1.out]; have := HR3.out; simp at this ⊢; exact this)⟩
          case measure => have := HJA.out; simp [intOf]; omega
        · obtain rfl : r = q := by omega
          have hll : ¬ ((a : Int) + (r : Int) < (lim : Int)) := by have := HLM.out; omega
          have HF := hide (show RowAt g N c w0 wr (P ++ ((V.take r ++ u :: V.drop r) ++ S)) by have := HRW.out; simpa using this)
          go_wp2_with fail
          go_end0
          exact ⟨rfl, _, by simpa using ins_perm V u r, HRES.out, HF.out⟩

end Go.Proofs.Ytadmpefbpklibaa
