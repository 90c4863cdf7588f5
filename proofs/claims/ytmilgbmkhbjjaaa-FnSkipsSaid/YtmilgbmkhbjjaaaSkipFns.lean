/- FnSkips: the walk through the law's own text. Conditions: those of the row's argument alone. -/
import Derived.Test.YtmilgbmkhbjjaaaSkipBest
import Derived.Test.YtmilgbmkhbjjaaaSkipFnLaw
import Derived.Test.YtmilgbmkhbjjaaaDrawBest
namespace Go.Proofs.Ytmilgbmkhbjjaaa
set_option linter.unusedVariables false
open Go.RowKit

theorem RiseTo.at_ {n : Nat} {ps : List Int} (h : RiseTo n ps) {k : Nat} (hk : k < ps.length) : ∃ j : Nat, ps[k] = (j : Int) ∧ j < n := by
  have h1 := h.2 _ (List.getElem_mem hk)
  obtain ⟨j, hj⟩ := Int.eq_ofNat_of_zero_le h1.1
  exact ⟨j, hj, by omega⟩
theorem RiseTo.lt {n : Nat} {ps : List Int} (h : RiseTo n ps) {k : Nat} (hk : k + 1 < ps.length) : ps[k] < ps[k + 1] := List.pairwise_iff_getElem.1 h.1 k (k + 1) (by omega) hk (by omega)
set_option maxHeartbeats 1600000 in
theorem c_b10Rises (A : Option Addr) (c : Nat) (ps : List Int) (n : Nat) (w : World) (hr : RiseTo n ps) (hl : ps.length ≤ 1048576) (hn : n ≤ 1048576) (hA : Rd intC 1 w A ps) :
    Calls Try.prog 7 #[.slice A ps.length c, .int .i64 (n : Int)] w fun e w' => e = .returned (.bool true) ∧ IsX w w' := by
  obtain ⟨m, hm⟩ : ∃ m, m = ps.length := ⟨_, rfl⟩
  have HM := hide hm
  rw [← hm] at hl ⊢
  clear hm
  have HR := hide hr
  have HA := hide hA
  clear hr hA
  go_enter Try.func7, Try.ntmps7
  go_wp2
  go_loopw [5] (fun iv wr => ∃ k : Nat, k ≤ m ∧ iv = .int .i64 k ∧ IsX w wr) (fun iv _ => m - (intOf iv).toNat)
  case atStart => exact ⟨0, Nat.zero_le _, rfl, IsX.refl _⟩
  case round =>
    obtain ⟨k, hk, rfl, p, rfl⟩ := hrel
    by_cases hlt : k < m
    · have hltx : k < ps.length := HM.out ▸ hlt
      obtain ⟨j, hj, hjn⟩ := HR.out.at_ hltx
      obtain ⟨b, off, rfl, hb, c0⟩ := int_rd HA.out (show ps[k]? = some ps[k] from List.getElem?_eq_getElem _)
      rw [hj] at c0
      have hj0 : (0 : Int) ≤ (j : Int) := by omega
      have hjn' : (j : Int) < (n : Int) := by omega
      cases k with
      | zero =>
        simp only [Nat.add_zero] at c0
        clear hj
        rw [show (((0 : Nat) : Int)) = 0 from rfl]
        have g0 : decide ((j : Int) < 0) = false := decide_eq_false (by omega)
        have g1 : decide (n ≤ j) = false := decide_eq_false (by omega)
        have g2 : decide ((0 : Int) < 0) = false := rfl
        go_wp2
        refine wp_region_x (by kernel_rfl) (by kernel_rfl) ?_
        repeat (go_big_quiet_step (fail))
        refine wpQuiet_nil ?_
        rintro _ ⟨q, rfl⟩
        go_wp2
        go_roundw
        case rel => exact ⟨1, by omega, by go_num, IsX.xt ⟨p, rfl⟩ q⟩
        case measure => simp [intOf]; omega
      | succ i =>
        obtain ⟨b', off', e, hb', d0⟩ := int_rd HA.out (show ps[i]? = some ps[i] from List.getElem?_eq_getElem _)
        injection e with e
        injection e with e1 e2
        subst e1 e2
        have hlt2 := HR.out.lt hltx
        rw [hj] at hlt2
        generalize ps[i] = z at d0 hlt2
        clear hj
        rw [show (((i + 1 : Nat) : Int)) = (i : Int) + 1 from rfl]
        have g0 : decide ((j : Int) < 0) = false := decide_eq_false (by omega)
        have g1 : decide (n ≤ j) = false := decide_eq_false (by omega)
        have g2 : decide ((0 : Int) < (i : Int) + 1) = true := decide_eq_true (by omega)
        have g3 : decide ((j : Int) ≤ z) = false := decide_eq_false (by omega)
        go_wp2
        refine wp_region_x (by kernel_rfl) (by kernel_rfl) ?_
        repeat (go_big_quiet_step (fail))
        refine wpQuiet_nil ?_
        rintro _ ⟨q, rfl⟩
        go_wp2
        go_roundw
        case rel => exact ⟨i + 1 + 1, by omega, by go_num, IsX.xt ⟨p, rfl⟩ q⟩
        case measure => simp [intOf]; omega
    · obtain rfl : k = m := by omega
      go_wp2
      go_ret
      exact ⟨rfl, ⟨p, rfl⟩⟩
set_option maxHeartbeats 1600000 in
theorem c_areIndicesOk (A : Option Addr) (c : Nat) (ps : List Int) (n : Nat) (w : World) (hr : RiseTo n ps) (hl : ps.length ≤ 1048576) (hn : n ≤ 1048576) (hA : Rd intC 1 w A ps) :
    Calls Try.prog 18 #[.slice A ps.length c, .int .i64 (n : Int)] w fun e w' => e = .returned (.bool true) ∧ IsX w w' := by
  obtain ⟨m, hm⟩ : ∃ m, m = ps.length := ⟨_, rfl⟩
  have HM := hide hm
  rw [← hm] at hl ⊢
  clear hm
  have HR := hide hr
  have HA := hide hA
  clear hr hA
  go_enter Try.func18, Try.ntmps18
  go_wp2
  go_loopw [9] (fun iv wr => ∃ k : Nat, k ≤ m ∧ iv = .int .i64 k ∧ IsX w wr) (fun iv _ => m - (intOf iv).toNat)
  case atStart => exact ⟨0, Nat.zero_le _, rfl, IsX.refl _⟩
  case round =>
    obtain ⟨k, hk, rfl, p, rfl⟩ := hrel
    by_cases hlt : k < m
    · have hltx : k < ps.length := HM.out ▸ hlt
      obtain ⟨j, hj, hjn⟩ := HR.out.at_ hltx
      obtain ⟨b, off, rfl, hb, c0⟩ := int_rd HA.out (show ps[k]? = some ps[k] from List.getElem?_eq_getElem _)
      rw [hj] at c0
      have hin : inB (j : Int) 0 ((n : Int) - 1) = true := inB_true.2 ⟨by omega, by omega⟩
      cases k with
      | zero =>
        simp only [Nat.add_zero] at c0
        clear hj
        rw [show (((0 : Nat) : Int)) = 0 from rfl]
        go_wp2_with (go_at_call 16; refine (cb (c_within _ _ _ _) hin).mono ?_; rintro e w' ⟨rfl, rfl⟩)
        go_roundw
        case rel => exact ⟨1, by omega, by go_num, ⟨p, rfl⟩⟩
        case measure => simp [intOf]; omega
      | succ i =>
        obtain ⟨b', off', e, hb', d0⟩ := int_rd HA.out (show ps[i]? = some ps[i] from List.getElem?_eq_getElem _)
        injection e with e
        injection e with e1 e2
        subst e1 e2
        have hlt2 := HR.out.lt hltx
        rw [hj] at hlt2
        generalize ps[i] = z at d0 hlt2
        clear hj
        rw [show (((i + 1 : Nat) : Int)) = (i : Int) + 1 from rfl]
        go_wp2_with (go_at_call 16; refine (cb (c_within _ _ _ _) hin).mono ?_; rintro e w' ⟨rfl, rfl⟩)
        go_roundw
        case rel => exact ⟨i + 1 + 1, by omega, by go_num, ⟨p, rfl⟩⟩
        case measure => simp [intOf]; omega
    · obtain rfl : k = m := by omega
      go_wp2
      go_ret
      exact ⟨rfl, ⟨p, rfl⟩⟩
theorem lenS_at {xs : List SkipD} {j : Nat} (h : j < xs.length) : lenS xs (j : Int) = xs[j].Length := by simp only [lenS, Int.toNat_natCast]; rw [skipAt_eq h]
theorem lossS_at {xs : List SkipD} {j : Nat} (h : j < xs.length) : lossS xs (j : Int) = xs[j].Loss := by simp only [lossS, Int.toNat_natCast]; rw [skipAt_eq h]
theorem lenS_bd {xs : List SkipD} (hv : skipsB xs = true) {ps : List Int} (hr : RiseTo xs.length ps) : ∀ p ∈ ps, (0 ≤ lenS xs p ∧ lenS xs p ≤ 1800000) := fun p hp => by
  have h1 := hr.2 p hp
  obtain ⟨j, rfl⟩ := Int.eq_ofNat_of_zero_le h1.1
  have hj : j < xs.length := by omega
  rw [lenS_at hj]
  have := (skipsB_ok hv).2 _ (List.getElem_mem hj)
  omega
theorem lossS_bd {xs : List SkipD} (hv : skipsB xs = true) {ps : List Int} (hr : RiseTo xs.length ps) : ∀ p ∈ ps, (0 ≤ lossS xs p ∧ lossS xs p ≤ 1000) := fun p hp => by
  have h1 := hr.2 p hp
  obtain ⟨j, rfl⟩ := Int.eq_ofNat_of_zero_le h1.1
  have hj : j < xs.length := by omega
  rw [lossS_at hj]
  have := (skipsB_ok hv).2 _ (List.getElem_mem hj)
  omega
set_option maxHeartbeats 1600000 in
set_option maxRecDepth 100000 in
theorem c_AfterSkips (A : Option Addr) (c : Nat) (xs : List SkipD) (A2 : Option Addr) (c2 : Nat) (ps : List Int) (w : World) (hv : skipsB xs = true) (hw : ∀ x ∈ xs, x.wf) (hr : RiseTo xs.length ps) (hpl : ps.length ≤ 1000) (hA : Rd SkipD.cells 3 w A xs) (hA2 : Rd intC 1 w A2 ps) :
    Calls Try.prog 8 #[.slice A xs.length c, .slice A2 ps.length c2, .int .i64 7200000] w fun e w' => e = .returned (.tuple #[.int .i64 (7200000 - sumF (lenS xs) ps), .int .i64 0]) ∧ IsX w w' := by
  have h12 := (skipsB_ok hv).1
  have HOKC := hide (c_ValidSkips A c xs w (by omega) hw hA)
  rw [hv] at HOKC
  have HIC := hide (fun (V : World) (hx : IsX w V) => c_areIndicesOk A2 c2 ps xs.length V hr (by omega) (by omega) (hA2.x hx))
  have HV := hide (skipsB_ok hv).2
  have HR := hide hr
  have HLB := hide (lenS_bd hv hr)
  have HA := hide hA
  have HA2 := hide hA2
  obtain ⟨n, hn⟩ : ∃ n, n = xs.length := ⟨_, rfl⟩
  obtain ⟨m, hm⟩ : ∃ m, m = ps.length := ⟨_, rfl⟩
  have HN := hide hn
  have HM := hide hm
  rw [← hn, ← hm] at HIC
  rw [← hn] at h12 HOKC ⊢
  rw [← hm] at hpl ⊢
  clear hn hm hv hw hr hA hA2
  go_enter Try.func8, Try.ntmps8
  go_wp2_with fail
  refine HOKC.out.mono ?_
  rintro e w1 ⟨rfl, hx⟩
  have HX := hide hx
  clear hx
  go_wp2_with fail
  refine (HIC.out _ HX.out).mono ?_
  rintro e w2 ⟨rfl, hx2⟩
  have HX2 := hide (HX.out.trans hx2)
  clear hx2
  have hin : inB 7200000 0 7200000 = true := inB_true.2 ⟨by omega, by omega⟩
  go_wp2_with (go_at_call 16; refine (cb (c_within _ _ _ _) hin).mono ?_; rintro e w' ⟨rfl, rfl⟩)
  go_loopw [8, 27] (fun sv iv wr => ∃ k : Nat, k ≤ m ∧ iv = .int .i64 k ∧ sv = .int .i64 (7200000 - sumF (lenS xs) (ps.take k)) ∧ IsX w wr) (fun _ iv _ => m - (intOf iv).toNat)
  case atStart => exact ⟨0, Nat.zero_le _, rfl, by simp [sumF], HX2.out⟩
  case round =>
    clear HX2 HX HOKC HIC
    obtain ⟨k, hk, rfl, rfl, p, rfl⟩ := hrel
    by_cases hlt : k < m
    · have hltx : k < ps.length := HM.out ▸ hlt
      obtain ⟨j, hj, hjn⟩ := HR.out.at_ hltx
      obtain ⟨b, off, e, hb, c0⟩ := int_rd HA2.out (show ps[k]? = some ps[k] from List.getElem?_eq_getElem _)
      subst e
      rw [hj] at c0
      have hjx : j < xs.length := by omega
      obtain ⟨b2, off2, e, hb2, d0, d1, d2⟩ := SkipD.rd HA.out (show xs[j]? = some xs[j] from List.getElem?_eq_getElem _)
      subst e
      obtain ⟨x0, x1, x2, x3, x4, x5, x6⟩ := HV.out _ (List.getElem_mem hjx)
      have HS := hide (show sumF (lenS xs) (ps.take (k + 1)) = sumF (lenS xs) (ps.take k) + xs[j].Length by rw [sumF_take hltx, hj, lenS_at hjx])
      have hbd := sumF_bd (f := lenS xs) (m := 1800000) (by omega) (ps := ps.take k) (fun p hp => HLB.out p (List.mem_of_mem_take hp))
      have hlk : (ps.take k).length ≤ k := List.length_take_le _ _
      obtain ⟨bd0, bd1⟩ := hbd
      generalize sumF (lenS xs) (ps.take k) = SK at bd0 bd1 HS ⊢
      generalize xs[j] = x at d0 d1 d2 x0 x1 x2 x3 x4 x5 x6 HS
      have hjn' : (j : Int) < (n : Int) := by have := HN.out; omega
      have hmin : min (7200000 - x.From) x.Length = x.Length := by omega
      have hmax : max 0 x.Length = x.Length := by omega
      clear hj
      go_wp2_with fail
      refine wp_region_x (by kernel_rfl) (by kernel_rfl) ?_
      repeat (go_big_quiet_step (fail))
      refine wpQuiet_nil ?_
      rintro _ ⟨q, rfl⟩
      go_wp2_with fail
      go_roundw
      case rel => exact ⟨k + 1, by omega, by go_num, by rw [HS.out]; congr 1; omega, IsX.xt ⟨p, rfl⟩ q⟩
      case measure => simp [intOf]; omega
    · obtain rfl : k = m := by omega
      have HT := hide (show ps.take k = ps by rw [HM.out]; exact List.take_length)
      rw [HT.out]
      go_wp2_with fail
      go_ret2
      exact ⟨rfl, ⟨p, rfl⟩⟩
theorem c_b10Long (A : Option Addr) (n c : Nat) (w : World) : Calls Try.prog 4 #[.slice A n c] w fun e w' => e = .returned (.bool (decide ((n : Int) > 1048576))) ∧ w = w' := by
  go_enter Try.func4, Try.ntmps4
  go_wp2
  go_ret
  exact ⟨rfl, rfl⟩
end Go.Proofs.Ytmilgbmkhbjjaaa
