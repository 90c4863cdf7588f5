/- Skips: what the validity tests of the reference and of the program compute. Conditions: lists no longer than 2^40. -/
import Derived.Test.YtmilgbmkhbjjaaaSkipLaw
namespace Go.Proofs.Ytmilgbmkhbjjaaa
set_option linter.unusedVariables false
open Go.RowKit


theorem skips_bad_ok {xs : List SkipD} {i : Nat} {h : i < xs.length} (ho : xs[i].okB = false) : skipsB xs = false := by simp [skipsB, bad_ok (ge := SkipD.geB) ho]
theorem skips_bad_ge {xs : List SkipD} {j : Nat} (h : j + 1 < xs.length) (hg : xs[j + 1].From < xs[j].From + xs[j].Length) : skipsB xs = false := by
  simp [skipsB, bad_ge (ge := SkipD.geB) (ok := SkipD.okB) (i := j) (h := h) (by simp [SkipD.geB, hg])]

set_option maxHeartbeats 1600000 in
theorem c_ValidSkips (A : Option Addr) (c : Nat) (xs : List SkipD) (w : World) (hn : xs.length ≤ 1099511627776) (hw : ∀ x ∈ xs, x.wf) (hA : Rd SkipD.cells 3 w A xs) :
    Calls Try.prog 15 #[.slice A xs.length c] w fun e w' => e = .returned (.bool (skipsB xs)) ∧ IsX w w' := by
  by_cases hlen : 12 < xs.length
  · have HR := hide (show skipsB xs = false by rw [skipsB, decide_eq_false (by omega)]; rfl)
    generalize xs.length = n at hn hlen ⊢
    go_enter Try.func15, Try.ntmps15
    go_wp2
    go_ret
    exact ⟨by rw [HR.out]; rfl, IsX.refl _⟩
  obtain ⟨n, hnn⟩ : ∃ n, n = xs.length := ⟨_, rfl⟩
  have HN := hide hnn
  rw [← hnn] at hn hlen ⊢
  clear hnn
  have HW := hide hw
  clear hw
  go_enter Try.func15, Try.ntmps15
  go_wp2
  go_loopw [10] (fun i wr => ∃ k : Nat, k ≤ n ∧ i = .int .i64 k ∧ (∀ i, i < k → goodAt SkipD.okB SkipD.geB xs i = true) ∧ IsX w wr) (fun i _ => n - (intOf i).toNat)
  case atStart => exact ⟨0, Nat.zero_le _, rfl, fun i hi => absurd hi (by omega), IsX.refl _⟩
  case round =>
    obtain ⟨k, hk, rfl, hall, p, rfl⟩ := hrel
    have HA := hide hall
    clear hall
    by_cases hlt : k < n
    · have hltx : k < xs.length := HN.out ▸ hlt
      obtain ⟨b, off, rfl, hb, c0, c1, c2⟩ := SkipD.rd hA (show xs[k]? = some xs[k] from List.getElem?_eq_getElem _)
      obtain ⟨⟨f0, f1⟩, ⟨l0, l1⟩, s0, s1⟩ := HW.out _ (List.getElem_mem hltx)
      cases h0 : inB xs[k].From 0 7200000
      · have HR := hide (show skipsB xs = false from skips_bad_ok (i := k) (h := hltx) (by simp [SkipD.okB, h0]))
        clear hA
        have hf := inB_false.1 h0
        have HH := hide h0
        clear h0
        by_cases h0 : xs[k].From < 0
        · skip
          go_wp2_with (go_at_call 16; refine (c_within _ _ _ _).mono ?_; rintro e w' ⟨rfl, rfl⟩)
          go_ret
          exact ⟨by rw [HR.out]; rfl, IsX.alloc ⟨p, rfl⟩ _⟩
        cases h1 : inB xs[k].Length 1 1800000
        · skip
          go_wp2_with (go_at_call 16; refine (c_within _ _ _ _).mono ?_; rintro e w' ⟨rfl, rfl⟩)
          go_ret
          exact ⟨by rw [HR.out]; rfl, IsX.alloc ⟨p, rfl⟩ _⟩
        obtain ⟨bl0, bl1⟩ := inB_true.1 h1
        have h2 : 7200000 - xs[k].Length < xs[k].From := by omega
        go_wp2_with (go_at_call 16; refine (c_within _ _ _ _).mono ?_; rintro e w' ⟨rfl, rfl⟩)
        go_ret
        exact ⟨by rw [HR.out]; rfl, IsX.alloc ⟨p, rfl⟩ _⟩
      obtain ⟨bf0, bf1⟩ := inB_true.1 h0
      have HH0 := hide h0
      have h0' : ¬ xs[k].From < 0 := by omega
      cases h1 : inB xs[k].Length 1 1800000
      · have HR := hide (show skipsB xs = false from skips_bad_ok (i := k) (h := hltx) (by simp [SkipD.okB, h0, h1]))
        clear hA
        go_wp2_with (go_at_call 16; refine (c_within _ _ _ _).mono ?_; rintro e w' ⟨rfl, rfl⟩)
        go_ret
        exact ⟨by rw [HR.out]; rfl, IsX.alloc ⟨p, rfl⟩ _⟩
      obtain ⟨bl0, bl1⟩ := inB_true.1 h1
      by_cases h2 : xs[k].From + xs[k].Length ≤ 7200000
      rotate_left
      · have HR := hide (show skipsB xs = false from skips_bad_ok (i := k) (h := hltx) (by simp [SkipD.okB, h0, h1, h2]))
        clear hA
        go_wp2_with (go_at_call 16; refine (c_within _ _ _ _).mono ?_; rintro e w' ⟨rfl, rfl⟩)
        go_ret
        exact ⟨by rw [HR.out]; rfl, IsX.alloc ⟨p, rfl⟩ _⟩
      cases h3 : inB xs[k].Loss 0 1000
      · have HR := hide (show skipsB xs = false from skips_bad_ok (i := k) (h := hltx) (by simp [SkipD.okB, h0, h1, h2, h3]))
        clear hA
        go_wp2_with (go_at_call 16; refine (c_within _ _ _ _).mono ?_; rintro e w' ⟨rfl, rfl⟩)
        go_ret
        exact ⟨by rw [HR.out]; rfl, IsX.alloc ⟨p, rfl⟩ _⟩
      have HO := hide (show xs[k].okB = true by simp [SkipD.okB, h0, h1, h2, h3])
      cases k with
      | zero =>
        clear hA
        rw [show (((0 : Nat) : Int)) = 0 from rfl]
        simp only [Nat.zero_mul, Nat.add_zero] at c0 c1 c2
        go_wp2_with (go_at_call 16; refine (c_within _ _ _ _).mono ?_; rintro e w' ⟨rfl, rfl⟩)
        refine wp_region_x (by kernel_rfl) (by kernel_rfl) ?_
        repeat (go_big_quiet_step (fail))
        refine wpQuiet_nil ?_
        rintro _ ⟨q, rfl⟩
        go_wp2
        go_roundw
        case rel => exact ⟨1, by omega, by go_num, good_step HA.out (good_zero HO.out), IsX.xt (IsX.alloc ⟨p, rfl⟩ _) q⟩
        case measure => simp [intOf]; omega
      | succ j =>
        obtain ⟨b', off', e, hb', d0, d1, d2⟩ := SkipD.rd hA (show xs[j]? = some xs[j] from List.getElem?_eq_getElem _)
        obtain ⟨⟨q0, q1⟩, ⟨r0, r1⟩, t0, t1⟩ := HW.out _ (List.getElem_mem (show j < xs.length by omega))
        obtain ⟨u0, u1⟩ : (0 ≤ xs[j].From ∧ xs[j].From ≤ 7200000) ∧ 1 ≤ xs[j].Length ∧ xs[j].Length ≤ 1800000 := by
          have hg := HA.out j (by omega)
          have hok : xs[j].okB = true := by
            cases j with
            | zero => simpa [goodAt, List.getElem?_eq_getElem (show 0 < xs.length by omega)] using hg
            | succ j =>
              simp only [goodAt, List.getElem?_eq_getElem (show j + 1 < xs.length by omega), Bool.and_eq_true] at hg
              exact hg.1
          simp only [SkipD.okB, Bool.and_eq_true] at hok
          exact ⟨inB_true.1 hok.1.1.1, inB_true.1 hok.1.1.2⟩
        obtain ⟨u00, u01⟩ := u0
        obtain ⟨u10, u11⟩ := u1
        injection e with e
        injection e with e1 e2
        subst e1 e2
        clear hA
        rw [show (((j + 1 : Nat) : Int)) = (j : Int) + 1 from rfl]
        by_cases hge : xs[j + 1].From < xs[j].From + xs[j].Length
        · have HR := hide (skips_bad_ge hltx hge)
          go_wp2_with (go_at_call 16; refine (c_within _ _ _ _).mono ?_; rintro e w' ⟨rfl, rfl⟩)
          refine wp_region_x (by kernel_rfl) (by kernel_rfl) ?_
          repeat (go_big_quiet_step (fail))
          refine wpQuiet_nil ?_
          rintro _ ⟨q, rfl⟩
          go_wp2
          go_ret
          exact ⟨by rw [HR.out]; rfl, IsX.xt (IsX.alloc ⟨p, rfl⟩ _) q⟩
        · have HG := hide (good_step HA.out (good_succ (i := j) (h := hltx) HO.out (by simp only [SkipD.geB]; exact decide_eq_false hge)))
          go_wp2_with (go_at_call 16; refine (c_within _ _ _ _).mono ?_; rintro e w' ⟨rfl, rfl⟩)
          refine wp_region_x (by kernel_rfl) (by kernel_rfl) ?_
          repeat (go_big_quiet_step (fail))
          refine wpQuiet_nil ?_
          rintro _ ⟨q, rfl⟩
          go_wp2
          go_roundw
          case rel => exact ⟨j + 1 + 1, by omega, by go_num, HG.out, IsX.xt (IsX.alloc ⟨p, rfl⟩ _) q⟩
          case measure => simp [intOf]; omega
    · obtain rfl : k = n := by omega
      have HG := hide (all_good (ok := SkipD.okB) (ge := SkipD.geB) (xs := xs) (fun i hi => HA.out i (by rw [HN.out]; exact hi)))
      have HR := hide (show skipsB xs = true by rw [skipsB, HG.out, decide_eq_true (by rw [← HN.out]; omega)]; rfl)
      go_wp2
      go_ret
      exact ⟨by rw [HR.out]; rfl, ⟨p, rfl⟩⟩

end Go.Proofs.Ytmilgbmkhbjjaaa
