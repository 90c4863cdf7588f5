/- The checks of a list of runs, at any capacity. Conditions: lists no longer than 2^40. -/
import Derived.Test.YtegehdhdlljikaaRunsFns
namespace Go.Proofs.Ytegehdhdlljikaa
set_option linter.unusedVariables false
open Go.RowKit

set_option maxHeartbeats 3200000 in
theorem c_ValidRunsC (A : Option Addr) (c : Nat) (xs : List RunD) (w : World) (hn : xs.length ≤ 1099511627776) (hw : ∀ x ∈ xs, x.wf) (hs : ∀ x ∈ xs, x.small 1099511627776) (hA : RdRun 0 w A xs) (hc : xs.length ≤ c) :
    Calls Try.prog 17 #[.slice A xs.length c] w fun e w' => e = .returned (.bool (runsB xs)) ∧ IsX w w' := by
  by_cases hlen : 16 < xs.length
  · have HR := hide (runs_len hlen)
    generalize xs.length = n at hn hlen hc ⊢
    go_enter Try.func17, Try.ntmps17
    go_wp2
    go_ret
    exact ⟨by rw [HR.out]; rfl, IsX.refl _⟩
  obtain ⟨n, hnn⟩ : ∃ n, n = xs.length := ⟨_, rfl⟩
  have HN := hide hnn
  rw [← hnn] at hn hlen hc ⊢
  clear hnn
  have HW := hide hw
  have HS := hide hs
  clear hw hs
  go_enter Try.func17, Try.ntmps17
  go_wp2
  go_loopw [3, 12] (fun s i wr => ∃ k : Nat, k ≤ n ∧ i = .int .i64 k ∧ s = .int .i64 (lastTo xs k) ∧ (∀ i, i < k → goodAt RunD.okB RunD.geB xs i = true) ∧ (∀ i, i < k → gapB xs i = true) ∧ IsX w wr) (fun _ i _ => n - (intOf i).toNat)
  case atStart => exact ⟨0, Nat.zero_le _, rfl, rfl, fun i hi => absurd hi (by omega), fun i hi => absurd hi (by omega), IsX.refl _⟩
  case round =>
    obtain ⟨k, hk, rfl, rfl, hall, hgap, p, rfl⟩ := hrel
    have HA := hide hall
    have HGP := hide hgap
    clear hall hgap
    by_cases hlt : k < n
    · have hltx : k < xs.length := HN.out ▸ hlt
      obtain ⟨b, off, qA, rA, qC, rC, rfl, hb, c0, c1, c2, R0, R1⟩ := RdRun.rd hA (show xs[k]? = some xs[k] from List.getElem?_eq_getElem _)
      have HB := hide (show xs[k].Cues.length ≤ 1099511627776 ∧ xs[k].Remarks.length ≤ 1099511627776 by have := HS.out _ (List.getElem_mem hltx); simp only [RunD.small] at this; omega)
      have HV := hide (HW.out _ (List.getElem_mem hltx))
      cases hok : xs[k].okB
      · have HR := hide (runs_good (bad_ok (ge := RunD.geB) (h := hltx) hok))
        clear hA
        go_wp2
        refine wp_region_x (by kernel_rfl) (by kernel_rfl) ?_
        repeat (go_big_quiet_step ((go_at_call 18; exact call_x (cb (c_rightRun xs[k] qA rA qC rC _ HV.out HB.out (R0.x (IsX.xt (IsX.alloc ⟨p, rfl⟩ _) _)) (R1.x (IsX.xt (IsX.alloc ⟨p, rfl⟩ _) _))) hok))))
        refine wpQuiet_nil ?_
        rintro _ ⟨q, rfl⟩
        go_wp2
        go_ret
        exact ⟨by rw [HR.out]; rfl, IsX.xt (IsX.alloc ⟨p, rfl⟩ _) q⟩
      · cases k with
        | zero =>
          clear hA
          rw [show (((0 : Nat) : Int)) = 0 from rfl]
          simp only [Nat.zero_mul, Nat.add_zero] at c0 c1 c2
          have HGO := hide (good_zero (ok := RunD.okB) (ge := RunD.geB) (h := hltx) hok)
          go_wp2
          refine wp_region_x (by kernel_rfl) (by kernel_rfl) ?_
          repeat (go_big_quiet_step ((go_at_call 18; exact call_x (cb (c_rightRun xs[0] qA rA qC rC _ HV.out HB.out (R0.x (IsX.xt (IsX.alloc ⟨p, rfl⟩ _) _)) (R1.x (IsX.xt (IsX.alloc ⟨p, rfl⟩ _) _))) hok))))
          refine wpQuiet_nil ?_
          rintro wo ⟨q, hq⟩
          have hX1 : IsX ((xt w p).alloc (.cells #[.int .i64 xs[0].Day, .slice qA xs[0].Cues.length qC, .slice rA xs[0].Remarks.length rC] 31)) wo := ⟨q, hq⟩
          clear hq
          have hX : IsX w wo := IsX.trans (IsX.alloc ⟨p, rfl⟩ _) hX1
          have l2 : wo.cell? ⟨(xt w p).heap.size, 2, none⟩ = some (.slice rA xs[0].Remarks.length rC) := keep hX1 (by simp) (by simp [go_sem])
          have hlb : (xt w p).heap.size < wo.heap.size := Nat.lt_of_lt_of_le (by simp) hX1.size
          have R1o := R1.x hX
          have HX := hide hX
          have hrl := (ok_parts hok).2.1
          clear hX1 hX R1 R0 c0 c1 c2
          by_cases hr0 : xs[0].Remarks.length = 0
          · have HP := hide (good_step (k := 0) (ok := RunD.okB) (ge := RunD.geB) HA.out HGO.out)
            have HQ := hide (show ∀ i, i < 1 → gapB xs i = true from fun i hi => by
              by_cases e : i = 0
              · subst e; exact gap_none hltx hr0
              · exact HGP.out i (by omega))
            have HL := hide (last_none hltx hr0)
            rw [hr0] at l2
            clear R1o
            go_wp2
            go_roundw
            case rel => exact ⟨1, by omega, by go_num, by rw [HL.out], HP.out, HQ.out, HX.out⟩
            case measure => simp [intOf]; omega
          · obtain ⟨m, hm⟩ : ∃ m, m + 1 = xs[0].Remarks.length := ⟨xs[0].Remarks.length - 1, by omega⟩
            have hr1 : 0 < xs[0].Remarks.length := by omega
            obtain ⟨b2, off2, rfl, hb2, f0, f1, f2, f3⟩ := RemarkD.rd R1o (show xs[0].Remarks[0]? = some xs[0].Remarks[0] from List.getElem?_eq_getElem _)
            obtain ⟨b3, off3, e, hb3, g0, g1, g2, g3⟩ := RemarkD.rd R1o (show xs[0].Remarks[m]? = some (xs[0].Remarks[m]'(by omega)) from List.getElem?_eq_getElem _)
            injection e with e
            injection e with q1 q2
            subst q1 q2
            simp only [Nat.zero_mul, Nat.add_zero] at f0
            have HL0 := last_some hltx hm
            obtain ⟨z, hz⟩ : ∃ z, z = (xs[0].Remarks[m]'(by omega)).Number := ⟨_, rfl⟩
            rw [← hz] at g0 HL0
            have HL := hide HL0
            have HM := hide hm
            rw [← hm] at l2
            have hm8 : m < 8 := by omega
            clear R1o f1 f2 f3 g1 g2 g3 HL0 hz hm
            by_cases hgp : lastTo xs (0) < xs[0].Remarks[0].Number
            · have HP := hide (good_step (k := 0) (ok := RunD.okB) (ge := RunD.geB) HA.out HGO.out)
              have HQ := hide (show ∀ i, i < 1 → gapB xs i = true from fun i hi => by
                by_cases e : i = 0
                · subst e; rw [gap_at hltx hr1]; exact decide_eq_true hgp
                · exact HGP.out i (by omega))
              go_wp2
              go_roundw
              case rel => exact ⟨1, by omega, by go_num, by rw [HL.out], HP.out, HQ.out, HX.out⟩
              case measure => simp [intOf]; omega
            · have HR := hide (runs_gap hltx (by rw [gap_at hltx hr1]; exact decide_eq_false hgp))
              go_wp2
              go_ret
              exact ⟨by rw [HR.out]; rfl, HX.out⟩
        | succ j =>
          obtain ⟨b', off', qA', rA', qC', rC', e, hb', d0, d1, d2, S0, S1⟩ := RdRun.rd hA (show xs[j]? = some xs[j] from List.getElem?_eq_getElem _)
          injection e with e
          injection e with e1 e2
          subst e1 e2
          clear S0 S1 d1 d2
          clear hA
          rw [show (((j + 1 : Nat) : Int)) = (j : Int) + 1 from rfl]
          by_cases hge : xs[j + 1].Day ≤ xs[j].Day
          · have HR := hide (runs_good (bad_ge (ok := RunD.okB) (ge := RunD.geB) (i := j) (h := hltx) (by simp only [RunD.geB]; exact decide_eq_true hge)))
            go_wp2
            refine wp_region_x (by kernel_rfl) (by kernel_rfl) ?_
            repeat (go_big_quiet_step ((go_at_call 18; exact call_x (cb (c_rightRun xs[j + 1] qA rA qC rC _ HV.out HB.out (R0.x (IsX.xt (IsX.alloc ⟨p, rfl⟩ _) _)) (R1.x (IsX.xt (IsX.alloc ⟨p, rfl⟩ _) _))) hok))))
            refine wpQuiet_nil ?_
            rintro _ ⟨q, rfl⟩
            go_wp2
            go_ret
            exact ⟨by rw [HR.out]; rfl, IsX.xt (IsX.alloc ⟨p, rfl⟩ _) q⟩
          · have HGO := hide (good_succ (ok := RunD.okB) (ge := RunD.geB) (h := hltx) hok (by simp only [RunD.geB]; exact decide_eq_false hge))
            go_wp2
            refine wp_region_x (by kernel_rfl) (by kernel_rfl) ?_
            repeat (go_big_quiet_step ((go_at_call 18; exact call_x (cb (c_rightRun xs[j + 1] qA rA qC rC _ HV.out HB.out (R0.x (IsX.xt (IsX.alloc ⟨p, rfl⟩ _) _)) (R1.x (IsX.xt (IsX.alloc ⟨p, rfl⟩ _) _))) hok))))
            refine wpQuiet_nil ?_
            rintro wo ⟨q, hq⟩
            have hX1 : IsX ((xt w p).alloc (.cells #[.int .i64 xs[j + 1].Day, .slice qA xs[j + 1].Cues.length qC, .slice rA xs[j + 1].Remarks.length rC] 31)) wo := ⟨q, hq⟩
            clear hq
            have hX : IsX w wo := IsX.trans (IsX.alloc ⟨p, rfl⟩ _) hX1
            have l2 : wo.cell? ⟨(xt w p).heap.size, 2, none⟩ = some (.slice rA xs[j + 1].Remarks.length rC) := keep hX1 (by simp) (by simp [go_sem])
            have hlb : (xt w p).heap.size < wo.heap.size := Nat.lt_of_lt_of_le (by simp) hX1.size
            have R1o := R1.x hX
            have HX := hide hX
            have hrl := (ok_parts hok).2.1
            clear hX1 hX R1 R0 c0 c1 c2
            by_cases hr0 : xs[j + 1].Remarks.length = 0
            · have HP := hide (good_step (k := j + 1) (ok := RunD.okB) (ge := RunD.geB) HA.out HGO.out)
              have HQ := hide (show ∀ i, i < j + 1 + 1 → gapB xs i = true from fun i hi => by
                by_cases e : i = j + 1
                · subst e; exact gap_none hltx hr0
                · exact HGP.out i (by omega))
              have HL := hide (last_none hltx hr0)
              rw [hr0] at l2
              clear R1o
              go_wp2
              go_roundw
              case rel => exact ⟨j + 1 + 1, by omega, by go_num, by rw [HL.out], HP.out, HQ.out, HX.out⟩
              case measure => simp [intOf]; omega
            · obtain ⟨m, hm⟩ : ∃ m, m + 1 = xs[j + 1].Remarks.length := ⟨xs[j + 1].Remarks.length - 1, by omega⟩
              have hr1 : 0 < xs[j + 1].Remarks.length := by omega
              obtain ⟨b2, off2, rfl, hb2, f0, f1, f2, f3⟩ := RemarkD.rd R1o (show xs[j + 1].Remarks[0]? = some xs[j + 1].Remarks[0] from List.getElem?_eq_getElem _)
              obtain ⟨b3, off3, e, hb3, g0, g1, g2, g3⟩ := RemarkD.rd R1o (show xs[j + 1].Remarks[m]? = some (xs[j + 1].Remarks[m]'(by omega)) from List.getElem?_eq_getElem _)
              injection e with e
              injection e with q1 q2
              subst q1 q2
              simp only [Nat.zero_mul, Nat.add_zero] at f0
              have HL0 := last_some hltx hm
              obtain ⟨z, hz⟩ : ∃ z, z = (xs[j + 1].Remarks[m]'(by omega)).Number := ⟨_, rfl⟩
              rw [← hz] at g0 HL0
              have HL := hide HL0
              have HM := hide hm
              rw [← hm] at l2
              have hm8 : m < 8 := by omega
              clear R1o f1 f2 f3 g1 g2 g3 HL0 hz hm
              by_cases hgp : lastTo xs (j + 1) < xs[j + 1].Remarks[0].Number
              · have HP := hide (good_step (k := j + 1) (ok := RunD.okB) (ge := RunD.geB) HA.out HGO.out)
                have HQ := hide (show ∀ i, i < j + 1 + 1 → gapB xs i = true from fun i hi => by
                  by_cases e : i = j + 1
                  · subst e; rw [gap_at hltx hr1]; exact decide_eq_true hgp
                  · exact HGP.out i (by omega))
                go_wp2
                go_roundw
                case rel => exact ⟨j + 1 + 1, by omega, by go_num, by rw [HL.out], HP.out, HQ.out, HX.out⟩
                case measure => simp [intOf]; omega
              · have HR := hide (runs_gap hltx (by rw [gap_at hltx hr1]; exact decide_eq_false hgp))
                go_wp2
                go_ret
                exact ⟨by rw [HR.out]; rfl, HX.out⟩
    · obtain rfl : k = n := by omega
      have HR := hide (show runsB xs = true by
        rw [runs_all (fun i hi => HA.out i (by rw [HN.out]; exact hi)) (fun i hi => HGP.out i (by rw [HN.out]; exact hi))]
        exact decide_eq_true (by have := HN.out; omega))
      go_wp2
      go_ret
      exact ⟨by rw [HR.out]; rfl, ⟨p, rfl⟩⟩

end Go.Proofs.Ytegehdhdlljikaa
