/- Widths that can be patched (both sides), and FewestUniverses of the reference. Conditions: lists no longer than 2^40. -/
import Derived.Test.YtlbcoplpdnidnaaUniRun
namespace Go.Proofs.Ytlbcoplpdnidnaa
set_option linter.unusedVariables false
open Go.RowKit

def widthNot (n : Int) : Bool := !(inB n 1 64)
theorem widths_all {ws : List Int} : ws.all (fun n => inB n 1 64) = !(ws.any widthNot) := by
  induction ws with
  | nil => rfl
  | cons a ws ih => simp [List.all_cons, List.any_cons, ih, widthNot]
theorem widths_of {ws : List Int} (h : widthsB ws = true) : ws.length ≤ 16 ∧ ∀ x ∈ ws, 1 ≤ x ∧ x ≤ 64 := by
  simp only [widthsB, Bool.and_eq_true, decide_eq_true_eq, List.all_eq_true] at h
  exact ⟨h.1, fun x hx => inB_true.1 (h.2 x hx)⟩
theorem c_l20Width (n : Int) (w : World) : Calls Try.prog 134 #[.int .i64 n] w fun e w' => e = .returned (.bool (inB n 1 64)) ∧ w = w' := by
  go_enter Try.func134, Try.ntmps134
  go_wp2_with (go_at_call 65; refine (c_in _ _ _ _).mono ?_; rintro e w' ⟨rfl, rfl⟩)
  go_ret
  exact ⟨rfl, rfl⟩
set_option maxHeartbeats 800000 in
theorem c_l20Widths (A : Option Addr) (c : Nat) (xs : List Int) (w : World) (hn : xs.length ≤ 1099511627776) (hA : Rd intC 1 w A xs) :
    Calls Try.prog 64 #[.slice A xs.length c] w fun e w' => e = .returned (.bool (widthsB xs)) ∧ IsX w w' := by
  obtain ⟨n, hnn⟩ : ∃ n, n = xs.length := ⟨_, rfl⟩
  have HN := hide hnn
  rw [← hnn] at hn ⊢
  clear hnn
  go_enter Try.func64, Try.ntmps64
  go_wp2
  go_loopw [3] (fun i wr => ∃ k : Nat, k ≤ n ∧ i = .int .i64 k ∧ (∀ i (h : i < xs.length), i < k → widthNot xs[i] = false) ∧ IsX w wr) (fun i _ => n - (intOf i).toNat)
  case atStart => exact ⟨0, Nat.zero_le _, rfl, fun i h hi => absurd hi (by omega), IsX.refl _⟩
  case round =>
    obtain ⟨k, hk, rfl, hall, p, rfl⟩ := hrel
    have HA := hide hall
    clear hall
    by_cases hlt : k < n
    · have hltx : k < xs.length := HN.out ▸ hlt
      obtain ⟨b, off, rfl, hb, c0⟩ := int_rd hA (show xs[k]? = some xs[k] from List.getElem?_eq_getElem _)
      clear hA
      cases hp : inB xs[k] 1 64
      · have HR := hide (show widthsB xs = false by
          have : xs.all (fun n => inB n 1 64) = false := all_not (p := fun n => inB n 1 64) hltx hp
          simp [widthsB, this])
        go_wp2_with (go_at_call 134; refine (c_l20Width _ _).mono ?_; rintro e w' ⟨rfl, rfl⟩)
        go_ret
        exact ⟨by rw [HR.out]; rfl, ⟨p, rfl⟩⟩
      · have HP := hide (show widthNot xs[k] = false by simp [widthNot, hp])
        go_wp2_with (go_at_call 134; refine (c_l20Width _ _).mono ?_; rintro e w' ⟨rfl, rfl⟩)
        go_roundw
        case rel => exact ⟨k + 1, by omega, by go_num, step_all hltx HA.out HP.out, ⟨p, rfl⟩⟩
        case measure => simp [intOf]; omega
    · obtain rfl : k = n := by omega
      have HR := hide (show widthsB xs = decide ((k : Int) ≤ 16) by
        have : xs.all (fun n => inB n 1 64) = true := all_of (fun i h => by have := HA.out i h (by rw [HN.out]; exact h); simpa [widthNot] using this)
        rw [widthsB, this, Bool.and_true, ← HN.out]
        simp; omega)
      go_wp2
      go_ret
      exact ⟨by rw [HR.out]; rfl, ⟨p, rfl⟩⟩
theorem c_clo_width (n : Int) (w : World) : Calls Try.prog 136 #[.int .i64 n] w fun e w' => e = .returned (.bool (widthNot n)) ∧ IsX w w' := by
  go_enter Try.func136, Try.ntmps136
  go_wp2_with (go_at_call 69; refine (c_within _ _ _ _).mono ?_; rintro e w' ⟨rfl, rfl⟩)
  go_ret
  exact ⟨rfl, IsX.refl _⟩

set_option maxHeartbeats 400000 in
theorem c_Index_width (A : Option Addr) (c : Nat) (xs : List Int) (w : World) (hn : xs.length ≤ 1099511627776) (hA : Rd intC 1 w A xs) :
    Calls Try.prog 175 #[.slice A xs.length c, .func (.func 136) #[] #[]] w fun e w' => e = .returned (.int .i64 (idxI widthNot xs)) ∧ IsX w w' := by
  obtain ⟨n, hnn⟩ : ∃ n, n = xs.length := ⟨_, rfl⟩
  have HN := hide hnn
  rw [← hnn] at hn ⊢
  clear hnn
  go_enter Try.func175, Try.ntmps175
  go_wp2
  go_loopw [8] (fun i wr => ∃ k : Nat, k ≤ n ∧ i = .int .i64 k ∧ (∀ i (h : i < xs.length), i < k → widthNot xs[i] = false) ∧ IsX w wr) (fun i _ => n - (intOf i).toNat)
  case atStart => exact ⟨0, Nat.zero_le _, rfl, fun i h hi => absurd hi (by omega), IsX.refl _⟩
  case round =>
    obtain ⟨k, hk, rfl, hall, p, rfl⟩ := hrel
    have HA := hide hall
    clear hall
    by_cases hlt : k < n
    · have hltx : k < xs.length := HN.out ▸ hlt
      obtain ⟨b, off, rfl, hb, c0⟩ := int_rd hA (show xs[k]? = some xs[k] from List.getElem?_eq_getElem _)
      clear hA
      cases hp : widthNot xs[k]
      · have HP := hide hp
        go_wp2_with (go_at_call 136; refine (c_clo_width xs[k] _).mono ?_; rintro e w1 ⟨rfl, q, rfl⟩)
        go_roundw
        case rel => exact ⟨k + 1, by omega, by go_num, step_all hltx HA.out HP.out, IsX.xt ⟨p, rfl⟩ q⟩
        case measure => simp [intOf]; omega
      · have HR := hide (idxI_at hltx HA.out hp)
        go_wp2_with (go_at_call 136; refine (c_clo_width xs[k] _).mono ?_; rintro e w1 ⟨rfl, q, rfl⟩)
        go_ret
        exact ⟨by rw [HR.out]; rfl, IsX.xt ⟨p, rfl⟩ q⟩
    · have HR := hide (idxI_none (p := widthNot) (xs := xs) (fun i h => HA.out i h (by have := HN.out; omega)))
      go_wp2
      go_ret
      exact ⟨by rw [HR.out]; rfl, ⟨p, rfl⟩⟩

theorem c_Contains_width (A : Option Addr) (c : Nat) (xs : List Int) (w : World) (hn : xs.length ≤ 1099511627776) (hA : Rd intC 1 w A xs) :
    Calls Try.prog 135 #[.slice A xs.length c, .func (.func 136) #[] #[]] w fun e w' => e = .returned (.bool (xs.any widthNot)) ∧ IsX w w' := by
  have HI := hide (idxI_ge widthNot xs)
  go_enter Try.func135, Try.ntmps135
  go_wp2_with fail
  refine (c_Index_width A c xs w hn hA).mono ?_
  rintro e w1 ⟨rfl, hx⟩
  go_wp2_with fail
  go_ret
  exact ⟨by rw [← HI.out.2.2]; rfl, hx⟩

theorem c_areWidths (A : Option Addr) (c : Nat) (xs : List Int) (w : World) (hn : xs.length ≤ 1099511627776) (hA : Rd intC 1 w A xs) :
    Calls Try.prog 68 #[.slice A xs.length c] w fun e w' => e = .returned (.bool (widthsB xs)) ∧ IsX w w' := by
  by_cases hl : 16 < xs.length
  · have HR := hide (show widthsB xs = false by rw [widthsB, decide_eq_false (by omega)]; rfl)
    generalize xs.length = n at hn hl ⊢
    go_enter Try.func68, Try.ntmps68
    go_wp2_with fail
    go_ret
    exact ⟨by rw [HR.out]; rfl, IsX.refl _⟩
  · have HR := hide (show widthsB xs = !(xs.any widthNot) by rw [widthsB, decide_eq_true (by omega), widths_all]; rfl)
    have HC := hide (c_Contains_width A c xs w hn hA)
    generalize hnn : xs.length = n at hn hl HC ⊢
    clear hnn
    go_enter Try.func68, Try.ntmps68
    go_wp2_with fail
    refine HC.out.mono ?_
    rintro e w1 ⟨rfl, hx⟩
    go_wp2_with fail
    go_ret
    exact ⟨by rw [HR.out]; rfl, hx⟩

theorem uniAns_no {xs : List Int} {bud : Int} (h : ¬ (widthsB xs = true ∧ inB bud 1 20000 = true)) : uniAns xs bud = ([], 0, 2) := by unfold uniAns; rw [if_neg h]
theorem uniAns_go {xs : List Int} {bud : Int} (h : widthsB xs = true ∧ inB bud 1 20000 = true) : uniAns xs bud = fewU xs (xs.length + 1) 0 bud.toNat := by unfold uniAns; rw [if_pos h]
theorem fewU_found {ws : List Int} {k m left : Nat} {c : List Int} (h : putU m ws [] [] left = .found c) : fewU ws (k + 1) m left = (c, (m : Int), 0) := by simp [fewU, h]
theorem fewU_full {ws : List Int} {k m left : Nat} (h : putU m ws [] [] left = .full) : fewU ws (k + 1) m left = ([], 0, 5) := by simp [fewU, h]
theorem fewU_none {ws : List Int} {k m left l : Nat} (h : putU m ws [] [] left = .none l) : fewU ws (k + 1) m left = fewU ws k (m + 1) l := by simp [fewU, h]
set_option maxHeartbeats 3200000 in
set_option maxRecDepth 100000 in
theorem s_FewestUniverses (A : Option Addr) (c : Nat) (xs : List Int) (bud : Int) (w : World) (hn : xs.length ≤ 1099511627776) (hw : ∀ x ∈ xs, intWf x) (hA : Rd intC 1 w A xs) (hb : intWf bud) :
    Calls Try.prog 11 #[.slice A xs.length c, .int .i64 bud] w (Sl3Post intC 1 2 w (uniAns xs bud).1 (uniAns xs bud).2.1 (uniAns xs bud).2.2) := by
  have HOKC := hide (c_l20Widths A c xs w hn hA)
  by_cases hv : widthsB xs = true ∧ inB bud 1 20000 = true
  rotate_left
  · have HR := hide (uniAns_no hv)
    have hvs : widthsB xs = false ∨ (widthsB xs = true ∧ inB bud 1 20000 = false) := by
      cases h1 : widthsB xs <;> cases h2 : inB bud 1 20000 <;> simp_all
    clear hv
    rcases hvs with h1 | ⟨h1, h2⟩
    all_goals
      rw [h1] at HOKC
      clear h1
      go_enter Try.func11, Try.ntmps11
      go_wp2_with fail
      refine HOKC.out.mono ?_
      rintro e w1 ⟨rfl, hx⟩
      go_wp2_with (go_at_call 65; refine (c_in _ _ _ _).mono ?_; rintro e w' ⟨rfl, rfl⟩)
      go_ret3
      rw [HR.out]
      exact Sl3Post.none rfl rfl hx
  · have HR := hide (uniAns_go hv)
    obtain ⟨hv, hbd⟩ := hv
    obtain ⟨hbl, hbh⟩ := inB_true.1 hbd
    have HV := hide (widths_of hv)
    rw [hv] at HOKC
    obtain ⟨n, hnn⟩ : ∃ n, n = xs.length := ⟨_, rfl⟩
    have HN := hide hnn
    have hn16 : n ≤ 16 := by rw [hnn]; exact HV.out.1
    rw [← hnn] at hn HOKC ⊢
    clear hnn hv
    obtain ⟨R, hR⟩ : ∃ R, R = uniAns xs bud := ⟨_, rfl⟩
    rw [← hR] at HR ⊢
    clear hR
    have HA := hide hA
    clear hA
    go_enter Try.func11, Try.ntmps11
    go_wp2_with fail
    refine HOKC.out.mono ?_
    rintro e w1 ⟨rfl, hx⟩
    go_wp2_with (go_at_call 65; refine (c_in _ _ _ _).mono ?_; rintro e w' ⟨rfl, rfl⟩)
    obtain ⟨XB, hXB⟩ : ∃ XB, XB = w1.heap.size := ⟨_, rfl⟩
    generalize hw2 : World.alloc w1 _ = w2
    have hX2 : Blk w2 XB 99 (uniC (.slice A n c) 0 bud (.slice none 0 0) (.slice none 0 0) ⟨[], bud.toNat, false⟩) := by
      rw [← hw2, hXB]
      have h := Blk.new w1 99 (uniC (.slice A n c) 0 bud (.slice none 0 0) (.slice none 0 0) ⟨[], bud.toNat, false⟩)
      simp only [uniC, show bud - ((bud.toNat : Nat) : Int) = 0 by omega] at h ⊢
      simpa using h
    have hx2 : IsX w w2 := by rw [← hw2]; exact hx.alloc _
    have hXw : w.heap.size ≤ XB := by rw [hXB]; exact hx.size
    rw [← hXB]
    clear hXB hw2 hx
    have hlX := hX2.lt
    have HX2 := hide hX2
    have HIX2 := hide hx2
    obtain ⟨B, hB⟩ : ∃ B, B = w2.heap.size := ⟨_, rfl⟩
    have hAo : Out B XB A ∨ xs = [] := by
      rcases Nat.eq_zero_or_pos xs.length with h0 | h0
      · exact .inr (List.eq_nil_of_length_eq_zero h0)
      · refine .inl fun b off e => ?_
        obtain ⟨b', off', e', hb', _⟩ := HA.out 0 _ (List.getElem?_eq_getElem h0)
        rw [e] at e'
        injection e' with e'
        injection e' with e1 e2
        have := hx2.size
        omega
    have HAO := hide hAo
    have HRA2 := hide (HA.out.x hx2)
    clear hX2 hx2 hAo
    have hB2 : B ≤ w2.heap.size := by omega
    have hwB : w.heap.size ≤ B := by have := HIX2.out.size; omega
    go_wp2_with fail
    go_loopw [8] (fun mv wr => ∃ (m left : Nat) (mo : Int), mv = .int .i64 m ∧ m ≤ n + 1 ∧ (left : Int) ≤ bud ∧ Hid (Fr B XB w2 wr) ∧ Hid (UniAt XB B (.slice A n c) mo bud [] ⟨[], left, false⟩ wr) ∧ Hid (R = fewU xs (n + 1 - m) m left)) (fun mv _ => n + 1 - (intOf mv).toNat)
    case atStart => exact ⟨0, bud.toNat, 0, rfl, Nat.zero_le _, by omega, hide (Fr.refl _ _ _), hide ⟨none, 0, none, 0, HX2.out, World.ownsRow_nil _ _ _ _, World.ownsRow_nil _ _ _ _, apart_none _⟩, hide (by rw [HR.out, HN.out]; rfl)⟩
    case round =>
      clear HX2 hB2 HR
      obtain ⟨m, left, mo, rfl, hm, hlb, HF, HUAT, HRF⟩ := hrel
      by_cases hmn : m ≤ n
      · obtain ⟨Ac, cc, Au, cu, hX, hC, hU, hAp⟩ := id HUAT.out
        have hlX := hX.lt
        have d1 := hX.cell 1
        simp [uniC] at d1
        have f1 := hX.frozen 1
        have HX3 := hide (hX.set_ 1 (.int .i64 (m : Int)))
        have HC3 := hide (own_set_other hC 1 (.int .i64 (m : Int)) (show XB < B by omega))
        have HU3 := hide (own_set_other hU 1 (.int .i64 (m : Int)) (show XB < B by omega))
        have HAp := hide hAp
        clear hX hC hU hAp
        go_upto_region 8 with fail
        have HF3 := hide (HF.out.set ⟨XB, 1, none⟩ (.int .i64 (m : Int)) (.inl rfl))
        generalize World.setCell wr ⟨XB, 1, none⟩ (.int .i64 (m : Int)) = w3 at HX3 HC3 HU3 HF3 ⊢
        clear d1 f1 HUAT HF
        have hB3 : B ≤ w3.heap.size := by have := HF3.out.size; omega
        have HAT3 : Hid (UniAt XB B (.slice A n c) m bud [] ⟨[], left, false⟩ w3) := hide ⟨Ac, cc, Au, cu, by have := HX3.out; simpa [uniC] using this, HC3.out, HU3.out, HAp.out⟩
        have HCALL : Hid (Calls Try.prog 66 #[.pointer (some ⟨XB, 0, none⟩)] w3 (UniQ XB B (.slice A n c) m bud [] [] (putU m xs [] [] left) w3)) := by
          rcases HAO.out with hAo | h0
          · have h := c_uniRun A c n xs HN.out hn16 HV.out.2 m (by omega) bud hbh XB B n 0 [] [] left w3 (by omega) {
              XB := (show XB < B by omega)
              Bw := hB3
              lft := hlb
              chl := rfl
              usl := Nat.le_refl _
              usb := fun x hx => by simp at hx
              rdA := HRA2.out.fr hAo HF3.out
              Ao := hAo
              at_ := HAT3.out }
            rw [List.drop_zero] at h
            exact hide h
          · have hn0 : n = 0 := by rw [HN.out, h0]; rfl
            subst h0
            exact hide (c_uniEnd A c n m bud XB B [] [] left w3 (by omega) (by rw [hn0]; rfl) m HAT3.out)
        clear HX3 HC3 HU3 HAp HAT3
        go_wp2_with fail
        refine HCALL.out.mono ?_
        rintro e w4 ⟨b4, rfl, hfr4, hres4⟩
        have HF4 := hide (HF3.out.trans hfr4)
        clear HCALL hfr4
        rcases hres4.cases with ⟨c4, hrc, rfl, u4, l4, hat4⟩ | ⟨l4, fl, rfl, hat4, hn4, hf4⟩
        · have HRR := hide (show R = (c4, (m : Int), 0) by rw [HRF.out, show n + 1 - m = (n - m) + 1 by omega]; exact fewU_found hrc)
          have hc16 : c4.length ≤ 16 := by have := putU_len m xs [] [] left c4 hrc; simp at this; have := HN.out; omega
          obtain ⟨A4, cc4, Au4, cu4, hX4, hC4, hU4, hAp4⟩ := hat4
          have d2 := hX4.cell 2
          simp [uniC] at d2
          have hlX4 := hX4.lt
          have HC4 := hide hC4
          clear hres4 hrc hX4 hC4 hU4 hAp4
          go_wp2_with fail
          refine (c_l00Own A4 cc4 c4 w4 (by omega) (Own.rd (cells := intC) (k := 1) (by omega) intC_len HC4.out rfl)).mono ?_
          rintro e w5 ⟨A', c', rfl, hO, hx5⟩
          have HO := hide hO
          have HX5 := hide ((HF4.out.isx HIX2.out hXw hwB).trans hx5)
          have hsz : w.heap.size ≤ w4.heap.size := (HF4.out.isx HIX2.out hXw hwB).size
          clear hO hx5
          go_wp2_with fail
          go_ret3
          rw [HRR.out]
          exact ⟨A', c', rfl, row_le' HO.out hsz, HX5.out⟩
        · obtain ⟨A4, cc4, Au4, cu4, hX4, hC4, hU4, hAp4⟩ := id hat4
          have d6 := hX4.cell 6
          simp [uniC] at d6
          have hlX4 := hX4.lt
          have HAT4 := hide hat4
          have HN4 := hide hn4
          have HF8 := hide hf4
          clear hres4 hX4 hC4 hU4 hAp4 hat4 hn4 hf4
          cases fl
          · have HRR := hide (show R = fewU xs (n + 1 - (m + 1)) (m + 1) l4 by rw [HRF.out, show n + 1 - m = (n - m) + 1 by omega, fewU_none (HN4.out rfl)]; congr 1; omega)
            have hl4 : l4 ≤ left := putU_left m _ _ _ _ _ (HN4.out rfl)
            go_wp2_with fail
            go_roundw
            case rel => exact ⟨m + 1, l4, m, by go_num, by omega, by omega, HF4, HAT4, HRR⟩
            case measure => simp [intOf]; omega
          · have HRR := hide (show R = ([], 0, 5) by rw [HRF.out, show n + 1 - m = (n - m) + 1 by omega, fewU_full (HF8.out rfl).2])
            go_wp2_with fail
            go_ret3
            rw [HRR.out]
            exact Sl3Post.none rfl rfl (HF4.out.isx HIX2.out hXw hwB)
      · have HRR := hide (show R = ([], 0, 5) by rw [HRF.out, show n + 1 - m = 0 by omega]; rfl)
        have hx9 := hide (HF.out.isx HIX2.out hXw hwB)
        go_wp2_with fail
        go_ret3
        rw [HRR.out]
        exact Sl3Post.none rfl rfl hx9.out
end Go.Proofs.Ytlbcoplpdnidnaa
