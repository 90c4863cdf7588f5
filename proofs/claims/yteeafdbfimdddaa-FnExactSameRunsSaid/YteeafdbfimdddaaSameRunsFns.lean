/- Rehearsals compared: what the reference and the program compute. Conditions: lists no longer than 2^40. -/
import Derived.Test.YteeafdbfimdddaaNestRun
import Derived.Test.YteeafdbfimdddaaLists
namespace Go.Proofs.Yteeafdbfimdddaa
set_option linter.unusedVariables false
open Go.RowKit

def ByteArray.eqB (x y : ByteArray) : Bool := x.toList == y.toList
theorem run_neq_Str (x y : ByteArray) (W : World) : (binOp .neq 9 (.string x) (.string y)).run Try.prog W = .ok (.bool (!ByteArray.eqB x y)) W := by
  cases h : (x.toList == y.toList) <;> simp [go_sem, ByteArray.eqB, h]

def RemarkD.eqB (x y : RemarkD) : Bool := (x.Number == y.Number) && (x.Who.toList == y.Who.toList) && (x.Cue.toList == y.Cue.toList) && (x.Done == y.Done)
theorem run_neq_Remark (x y : RemarkD) (W : World) : (binOp .neq 113 (.agg #[.int .i64 x.Number, .string x.Who, .string x.Cue, .bool x.Done]) (.agg #[.int .i64 y.Number, .string y.Who, .string y.Cue, .bool y.Done])).run Try.prog W = .ok (.bool (!x.eqB y)) W := by
  cases h0 : (x.Number == y.Number)
  · simp [go_sem, RemarkD.eqB, h0]
  cases h1 : (x.Who.toList == y.Who.toList)
  · simp [go_sem, RemarkD.eqB, h0, h1]
  cases h2 : (x.Cue.toList == y.Cue.toList)
  · simp [go_sem, RemarkD.eqB, h0, h1, h2]
  cases h3 : (x.Done == y.Done)
  · simp [go_sem, RemarkD.eqB, h0, h1, h2, h3]
  simp [go_sem, RemarkD.eqB, h0, h1, h2, h3]

set_option maxHeartbeats 800000 in
theorem c_l21Texts (A0 : Option Addr) (c0' : Nat) (xs0 : List ByteArray) (A1 : Option Addr) (c1' : Nat) (xs1 : List ByteArray) (w : World) (hn0 : xs0.length ≤ 1099511627776) (hw0 : ∀ x ∈ xs0, strWf x) (hA0 : Rd strC 1 w A0 xs0)
    (hn1 : xs1.length ≤ 1099511627776) (hw1 : ∀ x ∈ xs1, strWf x) (hA1 : Rd strC 1 w A1 xs1) :
    Calls Try.prog 85 #[.slice A0 xs0.length c0', .slice A1 xs1.length c1'] w fun e w' => e = .returned (.bool (sameB ByteArray.eqB xs0 xs1)) ∧ IsX w w' := by
  by_cases hl : xs0.length = xs1.length
  case neg =>
    have HR := hide (same_len (eq := ByteArray.eqB) hl)
    generalize hm : xs0.length = n at hn0 hl ⊢
    generalize hm' : xs1.length = m at hn1 hl ⊢
    clear hm hm'
    have hl' : ((n : Int) != (m : Int)) = true := by rw [bne_iff_ne]; omega
    go_enter Try.func85, Try.ntmps85
    go_wp2_with fail
    go_ret
    exact ⟨by rw [HR.out]; rfl, IsX.refl _⟩
  obtain ⟨n, hnn⟩ : ∃ n, n = xs0.length := ⟨_, rfl⟩
  have HN := hide hnn
  have HL := hide hl
  rw [← hl, ← hnn]
  rw [← hnn] at hn0
  clear hnn hl hn1
  go_enter Try.func85, Try.ntmps85
  go_wp2
  go_loopw [5] (fun i wr => ∃ k : Nat, k ≤ n ∧ i = .int .i64 k ∧ (∀ i (h : i < xs0.length) (h' : i < xs1.length), i < k → ByteArray.eqB xs0[i] xs1[i] = true) ∧ IsX w wr) (fun i _ => n - (intOf i).toNat)
  case atStart => exact ⟨0, Nat.zero_le _, rfl, fun i h h' hi => absurd hi (by omega), IsX.refl _⟩
  case round =>
    obtain ⟨k, hk, rfl, hall, p, rfl⟩ := hrel
    have HA := hide hall
    clear hall
    by_cases hlt : k < n
    · have hltx : k < xs0.length := HN.out ▸ hlt
      have hlty : k < xs1.length := HL.out ▸ hltx
      obtain ⟨b, off, rfl, hb, c0⟩ := str_rd hA0 (show xs0[k]? = some xs0[k] from List.getElem?_eq_getElem _)
      obtain ⟨b', off', rfl, hb', d0⟩ := str_rd hA1 (show xs1[k]? = some xs1[k] from List.getElem?_eq_getElem _)
      clear hA0 hA1
      cases hq : ByteArray.eqB xs0[k] xs1[k]
      · have HR := hide (same_not (eq := ByteArray.eqB) hltx hlty hq)
        have hrun := fun W => run_neq_Str xs0[k] xs1[k] W
        rw [hq] at hrun
        have hq2 : (xs0[k].toList == xs1[k].toList) = false := hq
        go_wp2
        refine wp_region_x (by kernel_rfl) (by kernel_rfl) ?_
        repeat (first | go_big_quiet_step (fail) | quiet_step (fail))
        refine wpQuiet_nil ?_
        rintro _ ⟨q, rfl⟩
        go_wp2
        go_ret
        exact ⟨by rw [HR.out]; rfl, IsX.xt ⟨p, rfl⟩ q⟩
      · have HQ := hide hq
        have hrun := fun W => run_neq_Str xs0[k] xs1[k] W
        rw [hq] at hrun
        have hq2 : (xs0[k].toList == xs1[k].toList) = true := hq
        go_wp2
        refine wp_region_x (by kernel_rfl) (by kernel_rfl) ?_
        repeat (first | go_big_quiet_step (fail) | quiet_step (fail))
        refine wpQuiet_nil ?_
        rintro _ ⟨q, rfl⟩
        go_wp2
        go_roundw
        case rel => exact ⟨k + 1, by omega, by go_num, same_step hltx hlty HA.out HQ.out, IsX.xt ⟨p, rfl⟩ q⟩
        case measure => simp [intOf]; omega
    · have HR := hide (same_all (eq := ByteArray.eqB) HL.out (fun i h h' => HA.out i h h' (by have := HN.out; omega)))
      go_wp2
      go_ret
      exact ⟨by rw [HR.out]; rfl, ⟨p, rfl⟩⟩

set_option maxHeartbeats 800000 in
theorem c_EqualStr (A0 : Option Addr) (c0' : Nat) (xs0 : List ByteArray) (A1 : Option Addr) (c1' : Nat) (xs1 : List ByteArray) (w : World) (hn0 : xs0.length ≤ 1099511627776) (hw0 : ∀ x ∈ xs0, strWf x) (hA0 : Rd strC 1 w A0 xs0)
    (hn1 : xs1.length ≤ 1099511627776) (hw1 : ∀ x ∈ xs1, strWf x) (hA1 : Rd strC 1 w A1 xs1) :
    Calls Try.prog 89 #[.slice A0 xs0.length c0', .slice A1 xs1.length c1'] w fun e w' => e = .returned (.bool (sameB ByteArray.eqB xs0 xs1)) ∧ IsX w w' := by
  by_cases hl : xs0.length = xs1.length
  case neg =>
    have HR := hide (same_len (eq := ByteArray.eqB) hl)
    generalize hm : xs0.length = n at hn0 hl ⊢
    generalize hm' : xs1.length = m at hn1 hl ⊢
    clear hm hm'
    have hl' : ((n : Int) != (m : Int)) = true := by rw [bne_iff_ne]; omega
    go_enter Try.func89, Try.ntmps89
    go_wp2_with fail
    go_ret
    exact ⟨by rw [HR.out]; rfl, IsX.refl _⟩
  obtain ⟨n, hnn⟩ : ∃ n, n = xs0.length := ⟨_, rfl⟩
  have HN := hide hnn
  have HL := hide hl
  rw [← hl, ← hnn]
  rw [← hnn] at hn0
  clear hnn hl hn1
  go_enter Try.func89, Try.ntmps89
  go_wp2
  go_loopw [13] (fun i wr => ∃ k : Nat, k ≤ n ∧ i = .int .i64 k ∧ (∀ i (h : i < xs0.length) (h' : i < xs1.length), i < k → ByteArray.eqB xs0[i] xs1[i] = true) ∧ IsX w wr) (fun i _ => n - (intOf i).toNat)
  case atStart => exact ⟨0, Nat.zero_le _, rfl, fun i h h' hi => absurd hi (by omega), IsX.refl _⟩
  case round =>
    obtain ⟨k, hk, rfl, hall, p, rfl⟩ := hrel
    have HA := hide hall
    clear hall
    by_cases hlt : k < n
    · have hltx : k < xs0.length := HN.out ▸ hlt
      have hlty : k < xs1.length := HL.out ▸ hltx
      obtain ⟨b, off, rfl, hb, c0⟩ := str_rd hA0 (show xs0[k]? = some xs0[k] from List.getElem?_eq_getElem _)
      obtain ⟨b', off', rfl, hb', d0⟩ := str_rd hA1 (show xs1[k]? = some xs1[k] from List.getElem?_eq_getElem _)
      clear hA0 hA1
      cases hq : ByteArray.eqB xs0[k] xs1[k]
      · have HR := hide (same_not (eq := ByteArray.eqB) hltx hlty hq)
        have hrun := fun W => run_neq_Str xs0[k] xs1[k] W
        rw [hq] at hrun
        have hq2 : (xs0[k].toList == xs1[k].toList) = false := hq
        go_wp2
        refine wp_region_x (by kernel_rfl) (by kernel_rfl) ?_
        repeat (first | go_big_quiet_step (fail) | quiet_step (fail))
        refine wpQuiet_nil ?_
        rintro _ ⟨q, rfl⟩
        go_wp2
        go_ret
        exact ⟨by rw [HR.out]; rfl, IsX.xt ⟨p, rfl⟩ q⟩
      · have HQ := hide hq
        have hrun := fun W => run_neq_Str xs0[k] xs1[k] W
        rw [hq] at hrun
        have hq2 : (xs0[k].toList == xs1[k].toList) = true := hq
        go_wp2
        refine wp_region_x (by kernel_rfl) (by kernel_rfl) ?_
        repeat (first | go_big_quiet_step (fail) | quiet_step (fail))
        refine wpQuiet_nil ?_
        rintro _ ⟨q, rfl⟩
        go_wp2
        go_roundw
        case rel => exact ⟨k + 1, by omega, by go_num, same_step hltx hlty HA.out HQ.out, IsX.xt ⟨p, rfl⟩ q⟩
        case measure => simp [intOf]; omega
    · have HR := hide (same_all (eq := ByteArray.eqB) HL.out (fun i h h' => HA.out i h h' (by have := HN.out; omega)))
      go_wp2
      go_ret
      exact ⟨by rw [HR.out]; rfl, ⟨p, rfl⟩⟩

set_option maxHeartbeats 800000 in
theorem c_EqualRemark (A0 : Option Addr) (c0' : Nat) (xs0 : List RemarkD) (A1 : Option Addr) (c1' : Nat) (xs1 : List RemarkD) (w : World) (hn0 : xs0.length ≤ 1099511627776) (hw0 : ∀ x ∈ xs0, x.wf) (hA0 : Rd RemarkD.cells 4 w A0 xs0)
    (hn1 : xs1.length ≤ 1099511627776) (hw1 : ∀ x ∈ xs1, x.wf) (hA1 : Rd RemarkD.cells 4 w A1 xs1) :
    Calls Try.prog 90 #[.slice A0 xs0.length c0', .slice A1 xs1.length c1'] w fun e w' => e = .returned (.bool (sameB RemarkD.eqB xs0 xs1)) ∧ IsX w w' := by
  by_cases hl : xs0.length = xs1.length
  case neg =>
    have HR := hide (same_len (eq := RemarkD.eqB) hl)
    generalize hm : xs0.length = n at hn0 hl ⊢
    generalize hm' : xs1.length = m at hn1 hl ⊢
    clear hm hm'
    have hl' : ((n : Int) != (m : Int)) = true := by rw [bne_iff_ne]; omega
    go_enter Try.func90, Try.ntmps90
    go_wp2_with fail
    go_ret
    exact ⟨by rw [HR.out]; rfl, IsX.refl _⟩
  obtain ⟨n, hnn⟩ : ∃ n, n = xs0.length := ⟨_, rfl⟩
  have HN := hide hnn
  have HL := hide hl
  rw [← hl, ← hnn]
  rw [← hnn] at hn0
  clear hnn hl hn1
  go_enter Try.func90, Try.ntmps90
  go_wp2
  go_loopw [13] (fun i wr => ∃ k : Nat, k ≤ n ∧ i = .int .i64 k ∧ (∀ i (h : i < xs0.length) (h' : i < xs1.length), i < k → RemarkD.eqB xs0[i] xs1[i] = true) ∧ IsX w wr) (fun i _ => n - (intOf i).toNat)
  case atStart => exact ⟨0, Nat.zero_le _, rfl, fun i h h' hi => absurd hi (by omega), IsX.refl _⟩
  case round =>
    obtain ⟨k, hk, rfl, hall, p, rfl⟩ := hrel
    have HA := hide hall
    clear hall
    by_cases hlt : k < n
    · have hltx : k < xs0.length := HN.out ▸ hlt
      have hlty : k < xs1.length := HL.out ▸ hltx
      obtain ⟨b, off, rfl, hb, c0, c1, c2, c3⟩ := RemarkD.rd hA0 (show xs0[k]? = some xs0[k] from List.getElem?_eq_getElem _)
      obtain ⟨b', off', rfl, hb', d0, d1, d2, d3⟩ := RemarkD.rd hA1 (show xs1[k]? = some xs1[k] from List.getElem?_eq_getElem _)
      clear hA0 hA1
      cases hq : RemarkD.eqB xs0[k] xs1[k]
      · have HR := hide (same_not (eq := RemarkD.eqB) hltx hlty hq)
        have hrun := fun W => run_neq_Remark xs0[k] xs1[k] W
        rw [hq] at hrun
        go_wp2
        refine wp_region_x (by kernel_rfl) (by kernel_rfl) ?_
        repeat (first | go_big_quiet_step (fail) | quiet_step (fail))
        refine wpQuiet_nil ?_
        rintro _ ⟨q, rfl⟩
        go_wp2
        go_ret
        exact ⟨by rw [HR.out]; rfl, IsX.xt ⟨p, rfl⟩ q⟩
      · have HQ := hide hq
        have hrun := fun W => run_neq_Remark xs0[k] xs1[k] W
        rw [hq] at hrun
        go_wp2
        refine wp_region_x (by kernel_rfl) (by kernel_rfl) ?_
        repeat (first | go_big_quiet_step (fail) | quiet_step (fail))
        refine wpQuiet_nil ?_
        rintro _ ⟨q, rfl⟩
        go_wp2
        go_roundw
        case rel => exact ⟨k + 1, by omega, by go_num, same_step hltx hlty HA.out HQ.out, IsX.xt ⟨p, rfl⟩ q⟩
        case measure => simp [intOf]; omega
    · have HR := hide (same_all (eq := RemarkD.eqB) HL.out (fun i h h' => HA.out i h h' (by have := HN.out; omega)))
      go_wp2
      go_ret
      exact ⟨by rw [HR.out]; rfl, ⟨p, rfl⟩⟩

def RunD.eqB (x y : RunD) : Bool := (x.Day == y.Day) && sameB ByteArray.eqB x.Cues y.Cues && sameB RemarkD.eqB x.Remarks y.Remarks

set_option maxRecDepth 100000 in
set_option maxHeartbeats 3200000 in
theorem c_specSameRuns (A0 : Option Addr) (c0 : Nat) (xs0 : List RunD) (A1 : Option Addr) (c1 : Nat) (xs1 : List RunD) (w : World) (hn0 : xs0.length ≤ 1099511627776) (hw0 : ∀ x ∈ xs0, x.wf) (hs0 : ∀ x ∈ xs0, x.small 1099511627776) (hA0 : RdRun 0 w A0 xs0) (hn1 : xs1.length ≤ 1099511627776) (hw1 : ∀ x ∈ xs1, x.wf) (hs1 : ∀ x ∈ xs1, x.small 1099511627776) (hA1 : RdRun 0 w A1 xs1) :
    Calls Try.prog 33 #[.slice A0 xs0.length c0, .slice A1 xs1.length c1] w fun e w' => e = .returned (.bool (sameB RunD.eqB xs0 xs1)) ∧ IsX w w' := by
  by_cases hl : xs0.length = xs1.length
  case neg =>
    have HR := hide (same_len (eq := RunD.eqB) hl)
    generalize hm : xs0.length = n at hn0 hl ⊢
    generalize hm' : xs1.length = m at hn1 hl ⊢
    clear hm hm'
    have hl' : ((n : Int) != (m : Int)) = true := by rw [bne_iff_ne]; omega
    go_enter Try.func33, Try.ntmps33
    go_wp2_with fail
    go_ret
    exact ⟨by rw [HR.out]; rfl, IsX.refl _⟩
  obtain ⟨n, hnn⟩ : ∃ n, n = xs0.length := ⟨_, rfl⟩
  have HN := hide hnn
  have HL := hide hl
  have HW0 := hide hw0
  have HW1 := hide hw1
  have HS0 := hide hs0
  have HS1 := hide hs1
  rw [← hl, ← hnn]
  rw [← hnn] at hn0
  clear hnn hl hn1 hw0 hw1 hs0 hs1
  go_enter Try.func33, Try.ntmps33
  go_wp2
  go_loopw [5] (fun i wr => ∃ k : Nat, k ≤ n ∧ i = .int .i64 k ∧ (∀ i (h : i < xs0.length) (h' : i < xs1.length), i < k → RunD.eqB xs0[i] xs1[i] = true) ∧ IsX w wr) (fun i _ => n - (intOf i).toNat)
  case atStart => exact ⟨0, Nat.zero_le _, rfl, fun i h h' hi => absurd hi (by omega), IsX.refl _⟩
  case round =>
    obtain ⟨k, hk, rfl, hall, p, rfl⟩ := hrel
    have HA := hide hall
    clear hall
    by_cases hlt : k < n
    · have hltx : k < xs0.length := HN.out ▸ hlt
      have hlty : k < xs1.length := HL.out ▸ hltx
      obtain ⟨b, off, qA, rA, qC, rC, rfl, hb, c0, c1, c2, hR0, hR1⟩ := RdRun.rd hA0 (show xs0[k]? = some xs0[k] from List.getElem?_eq_getElem _)
      obtain ⟨b', off', qA', rA', qC', rC', rfl, hb', d0, d1, d2, hR0', hR1'⟩ := RdRun.rd hA1 (show xs1[k]? = some xs1[k] from List.getElem?_eq_getElem _)
      have HB0 := hide (show xs0[k].Cues.length ≤ 1099511627776 ∧ xs0[k].Remarks.length ≤ 1099511627776 by have := HS0.out _ (List.getElem_mem hltx); simp only [RunD.small] at this; omega)
      have HB1 := hide (show xs1[k].Cues.length ≤ 1099511627776 ∧ xs1[k].Remarks.length ≤ 1099511627776 by have := HS1.out _ (List.getElem_mem hlty); simp only [RunD.small] at this; omega)
      have HV0 := hide (HW0.out _ (List.getElem_mem hltx))
      have HV1 := hide (HW1.out _ (List.getElem_mem hlty))
      clear hA0 hA1
      cases hd : (xs0[k].Day == xs1[k].Day)
      · have HR := hide (same_not (eq := RunD.eqB) hltx hlty (by simp only [RunD.eqB, hd, Bool.false_and]))
        have hdn : (xs0[k].Day != xs1[k].Day) = true := by simp only [bne, hd]; rfl
        clear hR0 hR1 hR0' hR1'
        go_wp2
        refine wp_region_x (by kernel_rfl) (by kernel_rfl) ?_
        repeat (go_big_quiet_step (fail))
        refine wpQuiet_nil ?_
        rintro _ ⟨q, rfl⟩
        go_wp2
        go_ret
        exact ⟨by rw [HR.out]; rfl, IsX.xt ⟨p, rfl⟩ q⟩
      have hdn : (xs0[k].Day != xs1[k].Day) = false := by simp only [bne, hd]; rfl
      cases ht : sameB ByteArray.eqB xs0[k].Cues xs1[k].Cues
      · have HR := hide (same_not (eq := RunD.eqB) hltx hlty (by simp only [RunD.eqB, ht, Bool.and_false, Bool.false_and]))
        clear hR1 hR1'
        go_wp2
        refine wp_region_x (by kernel_rfl) (by kernel_rfl) ?_
        repeat (go_big_quiet_step ((go_at_call 85; exact call_x (cb (c_l21Texts qA qC xs0[k].Cues qA' qC' xs1[k].Cues _ HB0.out.1 HV0.out.2.1.2 (hR0.x (IsX.xt ⟨p, rfl⟩ _)) HB1.out.1 HV1.out.2.1.2 (hR0'.x (IsX.xt ⟨p, rfl⟩ _))) ht))))
        refine wpQuiet_nil ?_
        rintro _ ⟨q, rfl⟩
        go_wp2
        go_ret
        exact ⟨by rw [HR.out]; rfl, IsX.xt ⟨p, rfl⟩ q⟩
      by_cases hl2 : xs0[k].Remarks.length = xs1[k].Remarks.length
      case neg =>
        have HR := hide (same_not (eq := RunD.eqB) hltx hlty (by simp only [RunD.eqB, same_len (eq := RemarkD.eqB) hl2, Bool.and_false]))
        have hln : (((xs0[k].Remarks.length : Nat) : Int) != ((xs1[k].Remarks.length : Nat) : Int)) = true := by rw [bne_iff_ne]; omega
        clear hR1 hR1'
        go_wp2
        refine wp_region_x (by kernel_rfl) (by kernel_rfl) ?_
        repeat (go_big_quiet_step ((go_at_call 85; exact call_x (cb (c_l21Texts qA qC xs0[k].Cues qA' qC' xs1[k].Cues _ HB0.out.1 HV0.out.2.1.2 (hR0.x (IsX.xt ⟨p, rfl⟩ _)) HB1.out.1 HV1.out.2.1.2 (hR0'.x (IsX.xt ⟨p, rfl⟩ _))) ht))))
        refine wpQuiet_nil ?_
        rintro _ ⟨q, rfl⟩
        go_wp2
        go_ret
        exact ⟨by rw [HR.out]; rfl, IsX.xt ⟨p, rfl⟩ q⟩
      obtain ⟨len, hlen⟩ : ∃ len, len = xs0[k].Remarks.length := ⟨_, rfl⟩
      have HLN := hide hlen
      have HL2 := hide hl2
      have hlm : len ≤ 1099511627776 := by have := HB0.out; omega
      rw [← hlen] at c2
      rw [← hl2, ← hlen] at d2
      clear hlen hl2
      go_wp2
      refine wp_region_x (by kernel_rfl) (by kernel_rfl) ?_
      repeat (go_big_quiet_step ((go_at_call 85; exact call_x (cb (c_l21Texts qA qC xs0[k].Cues qA' qC' xs1[k].Cues _ HB0.out.1 HV0.out.2.1.2 (hR0.x (IsX.xt ⟨p, rfl⟩ _)) HB1.out.1 HV1.out.2.1.2 (hR0'.x (IsX.xt ⟨p, rfl⟩ _))) ht))))
      refine wpQuiet_nil ?_
      rintro _ ⟨q, rfl⟩
      obtain ⟨p2, hp2⟩ : IsX w (xt (xt w p) q) := IsX.xt ⟨p, rfl⟩ q
      rw [hp2]
      have HD := hide hd
      have HT := hide ht
      clear hp2 hd hdn ht hR0 hR0'
      go_wp2
      go_loopw [6] (fun i wr => ∃ m : Nat, m ≤ len ∧ i = .int .i64 m ∧ (∀ i (h : i < xs0[k].Remarks.length) (h' : i < xs1[k].Remarks.length), i < m → RemarkD.eqB xs0[k].Remarks[i] xs1[k].Remarks[i] = true) ∧ IsX w wr) (fun i _ => len - (intOf i).toNat)
      case atStart => exact ⟨0, Nat.zero_le _, rfl, fun i h h' hi => absurd hi (by omega), ⟨p2, rfl⟩⟩
      case round =>
        obtain ⟨m, hm, rfl, hall, p3, rfl⟩ := hrel
        have HE := hide hall
        clear hall
        by_cases hml : m < len
        · have hmx : m < xs0[k].Remarks.length := HLN.out ▸ hml
          have hmy : m < xs1[k].Remarks.length := HL2.out ▸ hmx
          obtain ⟨b2, off2, rfl, hb2, f0, f1, f2, f3⟩ := RemarkD.rd hR1 (show xs0[k].Remarks[m]? = some xs0[k].Remarks[m] from List.getElem?_eq_getElem _)
          obtain ⟨b3, off3, rfl, hb3, g0, g1, g2, g3⟩ := RemarkD.rd hR1' (show xs1[k].Remarks[m]? = some xs1[k].Remarks[m] from List.getElem?_eq_getElem _)
          clear hR1 hR1'
          cases hq : RemarkD.eqB xs0[k].Remarks[m] xs1[k].Remarks[m]
          · have HR := hide (same_not (eq := RunD.eqB) hltx hlty (by simp only [RunD.eqB, same_not (eq := RemarkD.eqB) hmx hmy hq, Bool.and_false]))
            have hrun := fun W => run_neq_Remark xs0[k].Remarks[m] xs1[k].Remarks[m] W
            rw [hq] at hrun
            go_wp2
            refine wp_region_x (by kernel_rfl) (by kernel_rfl) ?_
            repeat (first | go_big_quiet_step (fail) | quiet_step (fail))
            refine wpQuiet_nil ?_
            rintro _ ⟨q, rfl⟩
            go_wp2
            go_ret
            exact ⟨by rw [HR.out]; rfl, IsX.xt ⟨p3, rfl⟩ q⟩
          · have HQ := hide hq
            have hrun := fun W => run_neq_Remark xs0[k].Remarks[m] xs1[k].Remarks[m] W
            rw [hq] at hrun
            go_wp2
            refine wp_region_x (by kernel_rfl) (by kernel_rfl) ?_
            repeat (first | go_big_quiet_step (fail) | quiet_step (fail))
            refine wpQuiet_nil ?_
            rintro _ ⟨q, rfl⟩
            go_wp2
            go_roundw
            case rel => exact ⟨m + 1, by omega, by go_num, same_step hmx hmy HE.out HQ.out, IsX.xt ⟨p3, rfl⟩ q⟩
            case measure => simp [intOf]; omega
        · have HQ := hide (show RunD.eqB xs0[k] xs1[k] = true by
            have h3 := same_all (eq := RemarkD.eqB) HL2.out (fun i h h' => HE.out i h h' (by have := HLN.out; omega))
            simp only [RunD.eqB, HD.out, HT.out, h3, Bool.true_and])
          go_wp2
          go_roundw
          case rel => exact ⟨k + 1, by omega, by go_num, same_step hltx hlty HA.out HQ.out, ⟨p3, rfl⟩⟩
          case measure => simp [intOf]; omega
    · have HR := hide (same_all (eq := RunD.eqB) HL.out (fun i h h' => HA.out i h h' (by have := HN.out; omega)))
      go_wp2
      go_ret
      exact ⟨by rw [HR.out]; rfl, ⟨p, rfl⟩⟩


set_option maxHeartbeats 1600000 in
theorem c_sameClo (x y : RunD) (qA rA qA' rA' : Option Addr) (qC rC qC' rC' : Nat) (w : World) (hwx : x.wf) (hwy : y.wf) (hsx : x.Cues.length ≤ 1099511627776 ∧ x.Remarks.length ≤ 1099511627776) (hsy : y.Cues.length ≤ 1099511627776 ∧ y.Remarks.length ≤ 1099511627776)
    (R0 : Rd strC 1 w qA x.Cues) (R1 : Rd RemarkD.cells 4 w rA x.Remarks) (R0' : Rd strC 1 w qA' y.Cues) (R1' : Rd RemarkD.cells 4 w rA' y.Remarks) :
    Calls Try.prog 88 #[.agg #[.int .i64 x.Day, .slice qA x.Cues.length qC, .slice rA x.Remarks.length rC], .agg #[.int .i64 y.Day, .slice qA' y.Cues.length qC', .slice rA' y.Remarks.length rC']] w fun e w' => e = .returned (.bool (RunD.eqB x y)) ∧ IsX w w' := by
  have HX := hide hwx
  have HY := hide hwy
  clear hwx hwy
  cases hd : (x.Day == y.Day)
  · have HR := hide (show RunD.eqB x y = false by simp only [RunD.eqB, hd, Bool.false_and])
    go_enter Try.func88, Try.ntmps88
    go_wp2_with fail
    go_ret
    exact ⟨by rw [HR.out]; rfl, ((IsX.refl w).alloc _).alloc _⟩
  have HRR := hide (show RunD.eqB x y = (sameB ByteArray.eqB x.Cues y.Cues && sameB RemarkD.eqB x.Remarks y.Remarks) by simp only [RunD.eqB, hd, Bool.true_and])
  go_enter Try.func88, Try.ntmps88
  go_wp2_with fail
  obtain ⟨W, hW⟩ : ∃ W, W = (w.alloc (.cells #[.int .i64 x.Day, .slice qA x.Cues.length qC, .slice rA x.Remarks.length rC] 110)).alloc (.cells #[.int .i64 y.Day, .slice qA' y.Cues.length qC', .slice rA' y.Remarks.length rC'] 110) := ⟨_, rfl⟩
  have hx : IsX w W := hW ▸ ((IsX.refl w).alloc _).alloc _
  rw [← hW]
  have hsz : W.heap.size = w.heap.size + 2 := by rw [hW]; simp
  have l1 : W.cell? ⟨w.heap.size, 1, none⟩ = some (.slice qA x.Cues.length qC) := by rw [hW]; simp [go_sem]
  have l2 : W.cell? ⟨w.heap.size, 2, none⟩ = some (.slice rA x.Remarks.length rC) := by rw [hW]; simp [go_sem]
  have m1 : W.cell? ⟨w.heap.size + 1, 1, none⟩ = some (.slice qA' y.Cues.length qC') := by rw [hW]; simp [go_sem]
  have m2 : W.cell? ⟨w.heap.size + 1, 2, none⟩ = some (.slice rA' y.Remarks.length rC') := by rw [hW]; simp [go_sem]
  clear hW
  cases ht : sameB ByteArray.eqB x.Cues y.Cues
  · have HR := hide (show RunD.eqB x y = false by rw [HRR.out, ht, Bool.false_and])
    refine (cb (c_EqualStr qA qC x.Cues qA' qC' y.Cues W hsx.1 HX.out.2.1.2 (R0.x hx) hsy.1 HY.out.2.1.2 (R0'.x hx)) ht).mono ?_
    rintro e w1 ⟨rfl, hx1⟩
    go_wp2_with fail
    go_ret
    exact ⟨by rw [HR.out]; rfl, hx.trans hx1⟩
  have HR := hide (show RunD.eqB x y = sameB RemarkD.eqB x.Remarks y.Remarks by rw [HRR.out, ht, Bool.true_and])
  refine (cb (c_EqualStr qA qC x.Cues qA' qC' y.Cues W hsx.1 HX.out.2.1.2 (R0.x hx) hsy.1 HY.out.2.1.2 (R0'.x hx)) ht).mono ?_
  rintro e w1 ⟨rfl, hx1⟩
  replace l2 := keep hx1 (by omega) l2
  replace m2 := keep hx1 (by omega) m2
  go_wp2_with fail
  refine (c_EqualRemark rA rC x.Remarks rA' rC' y.Remarks w1 hsx.2 HX.out.2.2.2 (R1.x (hx.trans hx1)) hsy.2 HY.out.2.2.2 (R1'.x (hx.trans hx1))).mono ?_
  rintro e w2 ⟨rfl, hx2⟩
  go_wp2_with fail
  go_ret
  exact ⟨by rw [HR.out]; rfl, (hx.trans hx1).trans hx2⟩

set_option maxHeartbeats 1600000 in
theorem c_EqualFuncRun (A0 : Option Addr) (c0 : Nat) (xs0 : List RunD) (A1 : Option Addr) (c1 : Nat) (xs1 : List RunD) (w : World) (hn0 : xs0.length ≤ 1099511627776) (hw0 : ∀ x ∈ xs0, x.wf) (hs0 : ∀ x ∈ xs0, x.small 1099511627776) (hA0 : RdRun 0 w A0 xs0) (hn1 : xs1.length ≤ 1099511627776) (hw1 : ∀ x ∈ xs1, x.wf) (hs1 : ∀ x ∈ xs1, x.small 1099511627776) (hA1 : RdRun 0 w A1 xs1) :
    Calls Try.prog 87 #[.slice A0 xs0.length c0, .slice A1 xs1.length c1, .func (.func 88) #[] #[]] w fun e w' => e = .returned (.bool (sameB RunD.eqB xs0 xs1)) ∧ IsX w w' := by
  by_cases hl : xs0.length = xs1.length
  case neg =>
    have HR := hide (same_len (eq := RunD.eqB) hl)
    generalize hm : xs0.length = n at hn0 hl ⊢
    generalize hm' : xs1.length = m at hn1 hl ⊢
    clear hm hm'
    have hl' : ((n : Int) != (m : Int)) = true := by rw [bne_iff_ne]; omega
    go_enter Try.func87, Try.ntmps87
    go_wp2_with fail
    go_ret
    exact ⟨by rw [HR.out]; rfl, IsX.refl _⟩
  obtain ⟨n, hnn⟩ : ∃ n, n = xs0.length := ⟨_, rfl⟩
  have HN := hide hnn
  have HL := hide hl
  have HW0 := hide hw0
  have HW1 := hide hw1
  have HS0 := hide hs0
  have HS1 := hide hs1
  rw [← hl, ← hnn]
  rw [← hnn] at hn0
  clear hnn hl hn1 hw0 hw1 hs0 hs1
  go_enter Try.func87, Try.ntmps87
  go_wp2
  go_loopw [17] (fun i wr => ∃ k : Nat, k ≤ n ∧ i = .int .i64 k ∧ (∀ i (h : i < xs0.length) (h' : i < xs1.length), i < k → RunD.eqB xs0[i] xs1[i] = true) ∧ IsX w wr) (fun i _ => n - (intOf i).toNat)
  case atStart => exact ⟨0, Nat.zero_le _, rfl, fun i h h' hi => absurd hi (by omega), IsX.refl _⟩
  case round =>
    obtain ⟨k, hk, rfl, hall, p, rfl⟩ := hrel
    have HA := hide hall
    clear hall
    by_cases hlt : k < n
    · have hltx : k < xs0.length := HN.out ▸ hlt
      have hlty : k < xs1.length := HL.out ▸ hltx
      obtain ⟨b, off, qA, rA, qC, rC, rfl, hb, c0, c1, c2, hR0, hR1⟩ := RdRun.rd hA0 (show xs0[k]? = some xs0[k] from List.getElem?_eq_getElem _)
      obtain ⟨b', off', qA', rA', qC', rC', rfl, hb', d0, d1, d2, hR0', hR1'⟩ := RdRun.rd hA1 (show xs1[k]? = some xs1[k] from List.getElem?_eq_getElem _)
      have HB0 := hide (show xs0[k].Cues.length ≤ 1099511627776 ∧ xs0[k].Remarks.length ≤ 1099511627776 by have := HS0.out _ (List.getElem_mem hltx); simp only [RunD.small] at this; omega)
      have HB1 := hide (show xs1[k].Cues.length ≤ 1099511627776 ∧ xs1[k].Remarks.length ≤ 1099511627776 by have := HS1.out _ (List.getElem_mem hlty); simp only [RunD.small] at this; omega)
      have HV0 := hide (HW0.out _ (List.getElem_mem hltx))
      have HV1 := hide (HW1.out _ (List.getElem_mem hlty))
      clear hA0 hA1
      cases hq : RunD.eqB xs0[k] xs1[k]
      · have HR := hide (same_not (eq := RunD.eqB) hltx hlty hq)
        go_wp2_with (go_at_call 88; refine (cb (c_sameClo xs0[k] xs1[k] qA rA qA' rA' qC rC qC' rC' _ HV0.out HV1.out HB0.out HB1.out (hR0.x (IsX.alloc (IsX.alloc ⟨p, rfl⟩ _) _)) (hR1.x (IsX.alloc (IsX.alloc ⟨p, rfl⟩ _) _)) (hR0'.x (IsX.alloc (IsX.alloc ⟨p, rfl⟩ _) _)) (hR1'.x (IsX.alloc (IsX.alloc ⟨p, rfl⟩ _) _))) hq).mono ?_; rintro e w1 ⟨rfl, q, rfl⟩)
        go_ret
        exact ⟨by rw [HR.out]; rfl, IsX.xt (IsX.alloc (IsX.alloc ⟨p, rfl⟩ _) _) q⟩
      · have HQ := hide hq
        go_wp2_with (go_at_call 88; refine (cb (c_sameClo xs0[k] xs1[k] qA rA qA' rA' qC rC qC' rC' _ HV0.out HV1.out HB0.out HB1.out (hR0.x (IsX.alloc (IsX.alloc ⟨p, rfl⟩ _) _)) (hR1.x (IsX.alloc (IsX.alloc ⟨p, rfl⟩ _) _)) (hR0'.x (IsX.alloc (IsX.alloc ⟨p, rfl⟩ _) _)) (hR1'.x (IsX.alloc (IsX.alloc ⟨p, rfl⟩ _) _))) hq).mono ?_; rintro e w1 ⟨rfl, q, rfl⟩)
        go_roundw
        case rel => exact ⟨k + 1, by omega, by go_num, same_step hltx hlty HA.out HQ.out, IsX.xt (IsX.alloc (IsX.alloc ⟨p, rfl⟩ _) _) q⟩
        case measure => simp [intOf]; omega
    · have HR := hide (same_all (eq := RunD.eqB) HL.out (fun i h h' => HA.out i h h' (by have := HN.out; omega)))
      go_wp2
      go_ret
      exact ⟨by rw [HR.out]; rfl, ⟨p, rfl⟩⟩


set_option maxRecDepth 100000 in
set_option maxHeartbeats 1600000 in
theorem c_SameRuns (A0 : Option Addr) (c0 : Nat) (xs0 : List RunD) (A1 : Option Addr) (c1 : Nat) (xs1 : List RunD) (w : World) (hn0 : xs0.length ≤ 1099511627776) (hw0 : ∀ x ∈ xs0, x.wf) (hs0 : ∀ x ∈ xs0, x.small 1099511627776) (hA0 : RdRun 0 w A0 xs0) (hn1 : xs1.length ≤ 1099511627776) (hw1 : ∀ x ∈ xs1, x.wf) (hs1 : ∀ x ∈ xs1, x.small 1099511627776) (hA1 : RdRun 0 w A1 xs1) :
    Calls Try.prog 35 #[.slice A0 xs0.length c0, .slice A1 xs1.length c1] w fun e w' => e = .returned (.bool (sameB RunD.eqB xs0 xs1)) ∧ IsX w w' := by
  go_enter Try.func35, Try.ntmps35
  go_wp2_with fail
  refine (c_EqualFuncRun A0 c0 xs0 A1 c1 xs1 w hn0 hw0 hs0 hA0 hn1 hw1 hs1 hA1).mono ?_
  rintro e w1 ⟨rfl, hx⟩
  go_wp2_with fail
  go_ret
  exact ⟨rfl, hx⟩

end Go.Proofs.Yteeafdbfimdddaa
