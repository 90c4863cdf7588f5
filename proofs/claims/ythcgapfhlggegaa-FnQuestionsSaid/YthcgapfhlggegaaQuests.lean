/- Questions: what the validity tests of the reference and of the program compute. Conditions: lists no longer than 2^40. -/
import Derived.Test.YthcgapfhlggegaaQuestLaw
namespace Go.Proofs.Ythcgapfhlggegaa
set_option linter.unusedVariables false
open Go.RowKit

theorem quests_bad_ok {xs : List QuestionD} {i : Nat} {h : i < xs.length} (ho : xs[i].okB = false) : questsB xs = false := by simp [questsB, bad_ok (ge := QuestionD.geB) ho]
theorem quests_bad_ge {xs : List QuestionD} {j : Nat} (h : j + 1 < xs.length) (hg : Op.bytesLess xs[j].Id.toList xs[j + 1].Id.toList = false) : questsB xs = false := by
  simp [questsB, bad_ge (ge := QuestionD.geB) (ok := QuestionD.okB) (i := j) (h := h) (by simp [QuestionD.geB, hg])]

set_option maxHeartbeats 1600000 in
theorem c_ValidQuestions (A : Option Addr) (c : Nat) (xs : List QuestionD) (w : World) (hn : xs.length ≤ 1099511627776) (hw : ∀ x ∈ xs, x.wf) (hA : Rd QuestionD.cells 4 w A xs) :
    Calls Try.prog 22 #[.slice A xs.length c] w fun e w' => e = .returned (.bool (questsB xs)) ∧ IsX w w' := by
  by_cases hlen : 16 < xs.length
  · have HR := hide (show questsB xs = false by rw [questsB, decide_eq_false (by omega)]; rfl)
    generalize xs.length = n at hn hlen ⊢
    go_enter Try.func22, Try.ntmps22
    go_wp2
    go_ret
    exact ⟨by rw [HR.out]; rfl, IsX.refl _⟩
  obtain ⟨n, hnn⟩ : ∃ n, n = xs.length := ⟨_, rfl⟩
  have HN := hide hnn
  rw [← hnn] at hn hlen ⊢
  clear hnn
  have HW := hide hw
  clear hw
  go_enter Try.func22, Try.ntmps22
  go_wp2
  go_loopw [10] (fun i wr => ∃ k : Nat, k ≤ n ∧ i = .int .i64 k ∧ (∀ i, i < k → goodAt QuestionD.okB QuestionD.geB xs i = true) ∧ IsX w wr) (fun i _ => n - (intOf i).toNat)
  case atStart => exact ⟨0, Nat.zero_le _, rfl, fun i hi => absurd hi (by omega), IsX.refl _⟩
  case round =>
    obtain ⟨k, hk, rfl, hall, p, rfl⟩ := hrel
    have HA := hide hall
    clear hall
    by_cases hlt : k < n
    · have hltx : k < xs.length := HN.out ▸ hlt
      obtain ⟨b, off, rfl, hb, c0, c1, c2, c3⟩ := QuestionD.rd hA (show xs[k]? = some xs[k] from List.getElem?_eq_getElem _)
      have hsz : xs[k].Id.size ≤ maxLen := by have := HW.out _ (List.getElem_mem hltx); simp only [QuestionD.wf] at this; omega
      cases h0 : nameB xs[k].Id
      · have HR := hide (show questsB xs = false from quests_bad_ok (i := k) (h := hltx) (by simp [QuestionD.okB, h0]))
        clear hA
        go_wp2
        refine wp_region_x (by kernel_rfl) (by kernel_rfl) ?_
        repeat (go_big_quiet_step ((first | (go_at_call 35; with_reducible exact call_q (cb (c_IsName _ _ hsz) h0)))))
        refine wpQuiet_nil ?_
        rintro _ ⟨q, rfl⟩
        go_wp2
        go_ret
        exact ⟨by rw [HR.out]; rfl, IsX.xt (IsX.alloc ⟨p, rfl⟩ _) q⟩
      cases h1 : inB xs[k].Arrived 0 40000000
      · have HR := hide (show questsB xs = false from quests_bad_ok (i := k) (h := hltx) (by simp [QuestionD.okB, h0, h1]))
        clear hA
        go_wp2
        refine wp_region_x (by kernel_rfl) (by kernel_rfl) ?_
        repeat (go_big_quiet_step ((first | (go_at_call 35; with_reducible exact call_q (cb (c_IsName _ _ hsz) h0)) | (go_at_call 23; with_reducible exact call_q (cb (c_within xs[k].Arrived _ _ _) h1)))))
        refine wpQuiet_nil ?_
        rintro _ ⟨q, rfl⟩
        go_wp2
        go_ret
        exact ⟨by rw [HR.out]; rfl, IsX.xt (IsX.alloc ⟨p, rfl⟩ _) q⟩
      cases h2 : inB xs[k].Length 1 1800000
      · have HR := hide (show questsB xs = false from quests_bad_ok (i := k) (h := hltx) (by simp [QuestionD.okB, h0, h1, h2]))
        clear hA
        go_wp2
        refine wp_region_x (by kernel_rfl) (by kernel_rfl) ?_
        repeat (go_big_quiet_step ((first | (go_at_call 35; with_reducible exact call_q (cb (c_IsName _ _ hsz) h0)) | (go_at_call 23; with_reducible exact call_q (cb (c_within xs[k].Arrived _ _ _) h1)) | (go_at_call 23; with_reducible exact call_q (cb (c_within xs[k].Length _ _ _) h2)))))
        refine wpQuiet_nil ?_
        rintro _ ⟨q, rfl⟩
        go_wp2
        go_ret
        exact ⟨by rw [HR.out]; rfl, IsX.xt (IsX.alloc ⟨p, rfl⟩ _) q⟩
      cases h3 : inB xs[k].Priority 1 100
      · have HR := hide (show questsB xs = false from quests_bad_ok (i := k) (h := hltx) (by simp [QuestionD.okB, h0, h1, h2, h3]))
        clear hA
        go_wp2
        refine wp_region_x (by kernel_rfl) (by kernel_rfl) ?_
        repeat (go_big_quiet_step ((first | (go_at_call 35; with_reducible exact call_q (cb (c_IsName _ _ hsz) h0)) | (go_at_call 23; with_reducible exact call_q (cb (c_within xs[k].Arrived _ _ _) h1)) | (go_at_call 23; with_reducible exact call_q (cb (c_within xs[k].Length _ _ _) h2)) | (go_at_call 23; with_reducible exact call_q (cb (c_within xs[k].Priority _ _ _) h3)))))
        refine wpQuiet_nil ?_
        rintro _ ⟨q, rfl⟩
        go_wp2
        go_ret
        exact ⟨by rw [HR.out]; rfl, IsX.xt (IsX.alloc ⟨p, rfl⟩ _) q⟩
      have HO := hide (show xs[k].okB = true by simp [QuestionD.okB, h0, h1, h2, h3])
      cases k with
      | zero =>
        clear hA
        rw [show (((0 : Nat) : Int)) = 0 from rfl]
        simp only [Nat.zero_mul, Nat.add_zero] at c0 c1 c2 c3
        go_wp2
        refine wp_region_x (by kernel_rfl) (by kernel_rfl) ?_
        repeat (go_big_quiet_step ((first | (go_at_call 35; with_reducible exact call_q (cb (c_IsName _ _ hsz) h0)) | (go_at_call 23; with_reducible exact call_q (cb (c_within xs[0].Arrived _ _ _) h1)) | (go_at_call 23; with_reducible exact call_q (cb (c_within xs[0].Length _ _ _) h2)) | (go_at_call 23; with_reducible exact call_q (cb (c_within xs[0].Priority _ _ _) h3)))))
        refine wpQuiet_nil ?_
        rintro _ ⟨q, rfl⟩
        go_wp2
        go_roundw
        case rel => exact ⟨1, by omega, by go_num, good_step HA.out (good_zero HO.out), IsX.xt (IsX.alloc ⟨p, rfl⟩ _) q⟩
        case measure => simp [intOf]; omega
      | succ j =>
        obtain ⟨b', off', e, hb', d0, d1, d2, d3⟩ := QuestionD.rd hA (show xs[j]? = some xs[j] from List.getElem?_eq_getElem _)
        injection e with e
        injection e with e1 e2
        subst e1 e2
        clear hA
        rw [show (((j + 1 : Nat) : Int)) = (j : Int) + 1 from rfl]
        cases hge : Op.bytesLess xs[j].Id.toList xs[j + 1].Id.toList
        · have HR := hide (quests_bad_ge hltx hge)
          go_wp2
          refine wp_region_x (by kernel_rfl) (by kernel_rfl) ?_
          repeat (go_big_quiet_step ((first | (go_at_call 35; with_reducible exact call_q (cb (c_IsName _ _ hsz) h0)) | (go_at_call 23; with_reducible exact call_q (cb (c_within xs[j + 1].Arrived _ _ _) h1)) | (go_at_call 23; with_reducible exact call_q (cb (c_within xs[j + 1].Length _ _ _) h2)) | (go_at_call 23; with_reducible exact call_q (cb (c_within xs[j + 1].Priority _ _ _) h3)))))
          refine wpQuiet_nil ?_
          rintro _ ⟨q, rfl⟩
          go_wp2
          go_ret
          exact ⟨by rw [HR.out]; rfl, IsX.xt (IsX.alloc ⟨p, rfl⟩ _) q⟩
        · have HG := hide (good_step HA.out (good_succ (i := j) (h := hltx) HO.out (by simp [QuestionD.geB, hge])))
          go_wp2
          refine wp_region_x (by kernel_rfl) (by kernel_rfl) ?_
          repeat (go_big_quiet_step ((first | (go_at_call 35; with_reducible exact call_q (cb (c_IsName _ _ hsz) h0)) | (go_at_call 23; with_reducible exact call_q (cb (c_within xs[j + 1].Arrived _ _ _) h1)) | (go_at_call 23; with_reducible exact call_q (cb (c_within xs[j + 1].Length _ _ _) h2)) | (go_at_call 23; with_reducible exact call_q (cb (c_within xs[j + 1].Priority _ _ _) h3)))))
          refine wpQuiet_nil ?_
          rintro _ ⟨q, rfl⟩
          go_wp2
          go_roundw
          case rel => exact ⟨j + 1 + 1, by omega, by go_num, HG.out, IsX.xt (IsX.alloc ⟨p, rfl⟩ _) q⟩
          case measure => simp [intOf]; omega
    · obtain rfl : k = n := by omega
      have HG := hide (all_good (ok := QuestionD.okB) (ge := QuestionD.geB) (xs := xs) (fun i hi => HA.out i (by rw [HN.out]; exact hi)))
      have HR := hide (show questsB xs = true by rw [questsB, HG.out, decide_eq_true (by rw [← HN.out]; omega)]; rfl)
      go_wp2
      go_ret
      exact ⟨by rw [HR.out]; rfl, ⟨p, rfl⟩⟩

end Go.Proofs.Ythcgapfhlggegaa
