/- Lists of Offer: what the validity tests of the reference and of the program compute, and sums. Conditions: strings no longer than 2^63 - 1 bytes, lists no longer than 2^40. -/
import Derived.Test.YtmipphgekcdaoaaGreatDoorFlatOffer
import Derived.Test.YtmipphgekcdaoaaGreatDoorNames
import Derived.Test.YtmipphgekcdaoaaGreatDoorLists
namespace Go.Proofs.YtmipphgekcdaoaaGreatDoor
set_option linter.unusedVariables false
open Go.RowKit

def OfferD.okB (x : OfferD) : Bool := nameB x.Id && nameB x.Kind && inB x.Start 0 1439 && inB x.Length 1 (1440 - x.Start) && inB x.Worth 0 10000
def OfferD.geB (x y : OfferD) : Bool := !(Op.bytesLess x.Id.toList y.Id.toList)
def offersB (xs : List OfferD) : Bool := decide (xs.length ≤ 16) && allGood OfferD.okB OfferD.geB xs

set_option maxHeartbeats 800000 in
theorem c_validOffer (x : OfferD) (w : World) (hs0 : x.Id.size ≤ maxLen) (hs1 : x.Kind.size ≤ maxLen) :
    Calls Tryz.prog 25 #[.agg #[.string x.Id, .string x.Kind, .int .i64 x.Start, .int .i64 x.Length, .int .i64 x.Worth]] w fun e w' => e = .returned (.bool x.okB) ∧ IsX w w' := by
  cases h0 : nameB x.Id
  · have HR := hide (show x.okB = false by simp [OfferD.okB, h0])
    go_enter Tryz.func25, Tryz.ntmps25
    go_wp2_with (first | (go_at_call 43; (with_reducible refine (c_IsName x.Id _ hs0).mono ?_); rintro e w' ⟨rfl, rfl⟩) | (go_at_call 43; (with_reducible refine (c_IsName x.Kind _ hs1).mono ?_); rintro e w' ⟨rfl, rfl⟩) | (go_at_call 38; refine (c_within _ _ _ _).mono ?_; rintro e w' ⟨rfl, rfl⟩))
    go_ret
    exact ⟨by rw [HR.out]; first | rfl | exact congrArg (fun b => Ending.returned (Value.bool b)) (by simp; omega), (IsX.refl _).alloc _⟩
  cases h1 : nameB x.Kind
  · have HR := hide (show x.okB = false by simp [OfferD.okB, h0, h1])
    go_enter Tryz.func25, Tryz.ntmps25
    go_wp2_with (first | (go_at_call 43; (with_reducible refine (c_IsName x.Id _ hs0).mono ?_); rintro e w' ⟨rfl, rfl⟩) | (go_at_call 43; (with_reducible refine (c_IsName x.Kind _ hs1).mono ?_); rintro e w' ⟨rfl, rfl⟩) | (go_at_call 38; refine (c_within _ _ _ _).mono ?_; rintro e w' ⟨rfl, rfl⟩))
    go_ret
    exact ⟨by rw [HR.out]; first | rfl | exact congrArg (fun b => Ending.returned (Value.bool b)) (by simp; omega), (IsX.refl _).alloc _⟩
  cases h2 : inB x.Start 0 1439
  · have HR := hide (show x.okB = false by simp [OfferD.okB, h0, h1, h2])
    go_enter Tryz.func25, Tryz.ntmps25
    go_wp2_with (first | (go_at_call 43; (with_reducible refine (c_IsName x.Id _ hs0).mono ?_); rintro e w' ⟨rfl, rfl⟩) | (go_at_call 43; (with_reducible refine (c_IsName x.Kind _ hs1).mono ?_); rintro e w' ⟨rfl, rfl⟩) | (go_at_call 38; refine (c_within _ _ _ _).mono ?_; rintro e w' ⟨rfl, rfl⟩))
    go_ret
    exact ⟨by rw [HR.out]; first | rfl | exact congrArg (fun b => Ending.returned (Value.bool b)) (by simp; omega), (IsX.refl _).alloc _⟩
  have bs := inB_true.1 h2
  obtain ⟨bs0, bs1⟩ := bs
  cases h3 : inB x.Length 1 (1440 - x.Start)
  · have HR := hide (show x.okB = false by simp [OfferD.okB, h0, h1, h2, h3])
    go_enter Tryz.func25, Tryz.ntmps25
    go_wp2_with (first | (go_at_call 43; (with_reducible refine (c_IsName x.Id _ hs0).mono ?_); rintro e w' ⟨rfl, rfl⟩) | (go_at_call 43; (with_reducible refine (c_IsName x.Kind _ hs1).mono ?_); rintro e w' ⟨rfl, rfl⟩) | (go_at_call 38; refine (c_within _ _ _ _).mono ?_; rintro e w' ⟨rfl, rfl⟩))
    go_ret
    exact ⟨by rw [HR.out]; first | rfl | exact congrArg (fun b => Ending.returned (Value.bool b)) (by simp; omega), (IsX.refl _).alloc _⟩
  cases h4 : inB x.Worth 0 10000
  · have HR := hide (show x.okB = false by simp [OfferD.okB, h0, h1, h2, h3, h4])
    go_enter Tryz.func25, Tryz.ntmps25
    go_wp2_with (first | (go_at_call 43; (with_reducible refine (c_IsName x.Id _ hs0).mono ?_); rintro e w' ⟨rfl, rfl⟩) | (go_at_call 43; (with_reducible refine (c_IsName x.Kind _ hs1).mono ?_); rintro e w' ⟨rfl, rfl⟩) | (go_at_call 38; refine (c_within _ _ _ _).mono ?_; rintro e w' ⟨rfl, rfl⟩))
    go_ret
    exact ⟨by rw [HR.out]; first | rfl | exact congrArg (fun b => Ending.returned (Value.bool b)) (by simp; omega), (IsX.refl _).alloc _⟩
  have HR := hide (show x.okB = true by simp [OfferD.okB, h0, h1, h2, h3, h4])
  go_enter Tryz.func25, Tryz.ntmps25
  go_wp2_with (first | (go_at_call 43; (with_reducible refine (c_IsName x.Id _ hs0).mono ?_); rintro e w' ⟨rfl, rfl⟩) | (go_at_call 43; (with_reducible refine (c_IsName x.Kind _ hs1).mono ?_); rintro e w' ⟨rfl, rfl⟩) | (go_at_call 38; refine (c_within _ _ _ _).mono ?_; rintro e w' ⟨rfl, rfl⟩))
  go_ret
  exact ⟨by rw [HR.out]; first | rfl | exact congrArg (fun b => Ending.returned (Value.bool b)) (by simp; omega), (IsX.refl _).alloc _⟩

set_option maxHeartbeats 1600000 in
theorem c_l22One (x : OfferD) (b off : Nat) (w : World) (hs0 : x.Id.size ≤ maxLen) (hs1 : x.Kind.size ≤ maxLen) (hb : b < w.heap.size) (c0 : w.cell? ⟨b, off, none⟩ = some (.string x.Id)) (c1 : w.cell? ⟨b, off + 1, none⟩ = some (.string x.Kind)) (c2 : w.cell? ⟨b, off + 2, none⟩ = some (.int .i64 x.Start)) (c3 : w.cell? ⟨b, off + 3, none⟩ = some (.int .i64 x.Length)) (c4 : w.cell? ⟨b, off + 4, none⟩ = some (.int .i64 x.Worth)) :
    Calls Tryz.prog 50 #[.pointer (some ⟨b, off, none⟩)] w fun e w' => e = .returned (.bool x.okB) ∧ IsX w w' := by
  cases h0 : nameB x.Id
  · have HR := hide (show x.okB = false by simp [OfferD.okB, h0])
    go_enter Tryz.func50, Tryz.ntmps50
    go_wp2
    refine wp_region_x (by kernel_rfl) (by kernel_rfl) ?_
    repeat (go_big_quiet_step ((first | (go_at_call 62; with_reducible exact call_q (cb (c_name x.Id _ hs0) h0)))))
    refine wpQuiet_nil ?_
    rintro _ ⟨q, rfl⟩
    go_wp2
    go_ret
    exact ⟨by rw [HR.out]; first | rfl | exact congrArg (fun b => Ending.returned (Value.bool b)) (by simp; omega), ⟨q, rfl⟩⟩
  cases h1 : nameB x.Kind
  · have HR := hide (show x.okB = false by simp [OfferD.okB, h0, h1])
    go_enter Tryz.func50, Tryz.ntmps50
    go_wp2
    refine wp_region_x (by kernel_rfl) (by kernel_rfl) ?_
    repeat (go_big_quiet_step ((first | (go_at_call 62; with_reducible exact call_q (cb (c_name x.Id _ hs0) h0)) | (go_at_call 62; with_reducible exact call_q (cb (c_name x.Kind _ hs1) h1)))))
    refine wpQuiet_nil ?_
    rintro _ ⟨q, rfl⟩
    go_wp2
    go_ret
    exact ⟨by rw [HR.out]; first | rfl | exact congrArg (fun b => Ending.returned (Value.bool b)) (by simp; omega), ⟨q, rfl⟩⟩
  cases h2 : inB x.Start 0 1439
  · have HR := hide (show x.okB = false by simp [OfferD.okB, h0, h1, h2])
    go_enter Tryz.func50, Tryz.ntmps50
    go_wp2
    refine wp_region_x (by kernel_rfl) (by kernel_rfl) ?_
    repeat (go_big_quiet_step ((first | (go_at_call 62; with_reducible exact call_q (cb (c_name x.Id _ hs0) h0)) | (go_at_call 62; with_reducible exact call_q (cb (c_name x.Kind _ hs1) h1)) | (go_at_call 63; with_reducible exact call_q (cb (c_in x.Start 0 1439 _) h2)))))
    refine wpQuiet_nil ?_
    rintro _ ⟨q, rfl⟩
    go_wp2
    go_ret
    exact ⟨by rw [HR.out]; first | rfl | exact congrArg (fun b => Ending.returned (Value.bool b)) (by simp; omega), ⟨q, rfl⟩⟩
  have bs := inB_true.1 h2
  obtain ⟨bs0, bs1⟩ := bs
  cases h3 : inB x.Length 1 (1440 - x.Start)
  · have HR := hide (show x.okB = false by simp [OfferD.okB, h0, h1, h2, h3])
    go_enter Tryz.func50, Tryz.ntmps50
    go_wp2
    refine wp_region_x (by kernel_rfl) (by kernel_rfl) ?_
    repeat (go_big_quiet_step ((first | (go_at_call 62; with_reducible exact call_q (cb (c_name x.Id _ hs0) h0)) | (go_at_call 62; with_reducible exact call_q (cb (c_name x.Kind _ hs1) h1)) | (go_at_call 63; with_reducible exact call_q (cb (c_in x.Start 0 1439 _) h2)) | (go_at_call 63; with_reducible exact call_q (cb (c_in x.Length 1 (1440 - x.Start) _) h3)))))
    refine wpQuiet_nil ?_
    rintro _ ⟨q, rfl⟩
    go_wp2
    go_ret
    exact ⟨by rw [HR.out]; first | rfl | exact congrArg (fun b => Ending.returned (Value.bool b)) (by simp; omega), ⟨q, rfl⟩⟩
  cases h4 : inB x.Worth 0 10000
  · have HR := hide (show x.okB = false by simp [OfferD.okB, h0, h1, h2, h3, h4])
    go_enter Tryz.func50, Tryz.ntmps50
    go_wp2
    refine wp_region_x (by kernel_rfl) (by kernel_rfl) ?_
    repeat (go_big_quiet_step ((first | (go_at_call 62; with_reducible exact call_q (cb (c_name x.Id _ hs0) h0)) | (go_at_call 62; with_reducible exact call_q (cb (c_name x.Kind _ hs1) h1)) | (go_at_call 63; with_reducible exact call_q (cb (c_in x.Start 0 1439 _) h2)) | (go_at_call 63; with_reducible exact call_q (cb (c_in x.Length 1 (1440 - x.Start) _) h3)) | (go_at_call 63; with_reducible exact call_q (cb (c_in x.Worth 0 10000 _) h4)))))
    refine wpQuiet_nil ?_
    rintro _ ⟨q, rfl⟩
    go_wp2
    go_ret
    exact ⟨by rw [HR.out]; first | rfl | exact congrArg (fun b => Ending.returned (Value.bool b)) (by simp; omega), ⟨q, rfl⟩⟩
  have HR := hide (show x.okB = true by simp [OfferD.okB, h0, h1, h2, h3, h4])
  go_enter Tryz.func50, Tryz.ntmps50
  go_wp2
  refine wp_region_x (by kernel_rfl) (by kernel_rfl) ?_
  repeat (go_big_quiet_step ((first | (go_at_call 62; with_reducible exact call_q (cb (c_name x.Id _ hs0) h0)) | (go_at_call 62; with_reducible exact call_q (cb (c_name x.Kind _ hs1) h1)) | (go_at_call 63; with_reducible exact call_q (cb (c_in x.Start 0 1439 _) h2)) | (go_at_call 63; with_reducible exact call_q (cb (c_in x.Length 1 (1440 - x.Start) _) h3)) | (go_at_call 63; with_reducible exact call_q (cb (c_in x.Worth 0 10000 _) h4)))))
  refine wpQuiet_nil ?_
  rintro _ ⟨q, rfl⟩
  go_wp2
  go_ret
  exact ⟨by rw [HR.out]; first | rfl | exact congrArg (fun b => Ending.returned (Value.bool b)) (by simp; omega), ⟨q, rfl⟩⟩

set_option maxHeartbeats 1600000 in
theorem c_l22Ok (A : Option Addr) (c : Nat) (xs : List OfferD) (w : World) (hn : xs.length ≤ 1099511627776) (hw : ∀ x ∈ xs, x.wf) (hA : Rd OfferD.cells 5 w A xs) :
    Calls Tryz.prog 34 #[.slice A xs.length c] w fun e w' => e = .returned (.bool (offersB xs)) ∧ IsX w w' := by
  obtain ⟨n, hnn⟩ : ∃ n, n = xs.length := ⟨_, rfl⟩
  have HN := hide hnn
  rw [← hnn] at hn ⊢
  clear hnn
  have HW := hide hw
  clear hw
  have hA0 := hA
  go_enter Tryz.func34, Tryz.ntmps34
  go_wp2
  go_loopw [3] (fun i wr => ∃ k : Nat, k ≤ n ∧ i = .int .i64 k ∧ (∀ i, i < k → goodAt OfferD.okB OfferD.geB xs i = true) ∧ IsX w wr) (fun i _ => n - (intOf i).toNat)
  case atStart => exact ⟨0, Nat.zero_le _, rfl, fun i hi => absurd hi (by omega), IsX.refl _⟩
  case round =>
    obtain ⟨k, hk, rfl, hall, p, rfl⟩ := hrel
    have HA := hide hall
    clear hall
    by_cases hlt : k < n
    · have hltx : k < xs.length := HN.out ▸ hlt
      clear hA0
      obtain ⟨b, off, rfl, hb, c0, c1, c2, c3, c4⟩ := OfferD.rd hA (show xs[k]? = some xs[k] from List.getElem?_eq_getElem _)
      have hs0 : xs[k].Id.size ≤ maxLen := by have := HW.out _ (List.getElem_mem hltx); simp only [OfferD.wf] at this; omega
      have hs1 : xs[k].Kind.size ≤ maxLen := by have := HW.out _ (List.getElem_mem hltx); simp only [OfferD.wf] at this; omega
      cases hok : xs[k].okB
      · have HR := hide (show offersB xs = false by simp [offersB, bad_ok hok])
        clear hA
        go_wp2
        refine wp_region_x (by kernel_rfl) (by kernel_rfl) ?_
        repeat (go_big_quiet_step ((go_at_call 50; exact call_x (c_l22One xs[k] b (off + k * 5) _ hs0 hs1 (Nat.lt_of_lt_of_le hb (IsX.size (IsX.xt ⟨p, rfl⟩ _))) (keep (IsX.xt ⟨p, rfl⟩ _) hb c0) (keep (IsX.xt ⟨p, rfl⟩ _) hb c1) (keep (IsX.xt ⟨p, rfl⟩ _) hb c2) (keep (IsX.xt ⟨p, rfl⟩ _) hb c3) (keep (IsX.xt ⟨p, rfl⟩ _) hb c4)))))
        refine wpQuiet_nil ?_
        rintro _ ⟨q, rfl⟩
        go_wp2
        go_ret
        exact ⟨by rw [HR.out]; rfl, IsX.xt ⟨p, rfl⟩ q⟩
      · have HO := hide hok
        cases k with
        | zero =>
          clear hA
          rw [show (((0 : Nat) : Int)) = 0 from rfl]
          simp only [Nat.zero_mul, Nat.add_zero] at c0 c1 c2 c3 c4
          go_wp2
          refine wp_region_x (by kernel_rfl) (by kernel_rfl) ?_
          repeat (go_big_quiet_step ((go_at_call 50; exact call_x (c_l22One xs[0] b (off) _ hs0 hs1 (Nat.lt_of_lt_of_le hb (IsX.size (IsX.xt ⟨p, rfl⟩ _))) (keep (IsX.xt ⟨p, rfl⟩ _) hb c0) (keep (IsX.xt ⟨p, rfl⟩ _) hb c1) (keep (IsX.xt ⟨p, rfl⟩ _) hb c2) (keep (IsX.xt ⟨p, rfl⟩ _) hb c3) (keep (IsX.xt ⟨p, rfl⟩ _) hb c4)))))
          refine wpQuiet_nil ?_
          rintro _ ⟨q, rfl⟩
          go_wp2
          go_roundw
          case rel => exact ⟨1, by omega, by go_num, good_step HA.out (good_zero HO.out), IsX.xt ⟨p, rfl⟩ q⟩
          case measure => simp [intOf]; omega
        | succ j =>
          obtain ⟨b', off', e, hb', d0, d1, d2, d3, d4⟩ := OfferD.rd hA (show xs[j]? = some xs[j] from List.getElem?_eq_getElem _)
          injection e with e
          injection e with e1 e2
          subst e1 e2
          clear hA
          rw [show (((j + 1 : Nat) : Int)) = (j : Int) + 1 from rfl]
          cases hge : Op.bytesLess xs[j].Id.toList xs[j + 1].Id.toList
          · have HR := hide (show offersB xs = false by simp [offersB, bad_ge (ge := OfferD.geB) (ok := OfferD.okB) (i := j) (h := hltx) (by simp [OfferD.geB, hge])])
            go_wp2
            refine wp_region_x (by kernel_rfl) (by kernel_rfl) ?_
            repeat (go_big_quiet_step ((go_at_call 50; exact call_x (c_l22One xs[j + 1] b (off + (j + 1) * 5) _ hs0 hs1 (Nat.lt_of_lt_of_le hb (IsX.size (IsX.xt ⟨p, rfl⟩ _))) (keep (IsX.xt ⟨p, rfl⟩ _) hb c0) (keep (IsX.xt ⟨p, rfl⟩ _) hb c1) (keep (IsX.xt ⟨p, rfl⟩ _) hb c2) (keep (IsX.xt ⟨p, rfl⟩ _) hb c3) (keep (IsX.xt ⟨p, rfl⟩ _) hb c4)))))
            refine wpQuiet_nil ?_
            rintro _ ⟨q, rfl⟩
            go_wp2
            go_ret
            exact ⟨by rw [HR.out]; rfl, IsX.xt ⟨p, rfl⟩ q⟩
          · have HG := hide hge
            go_wp2
            refine wp_region_x (by kernel_rfl) (by kernel_rfl) ?_
            repeat (go_big_quiet_step ((go_at_call 50; exact call_x (c_l22One xs[j + 1] b (off + (j + 1) * 5) _ hs0 hs1 (Nat.lt_of_lt_of_le hb (IsX.size (IsX.xt ⟨p, rfl⟩ _))) (keep (IsX.xt ⟨p, rfl⟩ _) hb c0) (keep (IsX.xt ⟨p, rfl⟩ _) hb c1) (keep (IsX.xt ⟨p, rfl⟩ _) hb c2) (keep (IsX.xt ⟨p, rfl⟩ _) hb c3) (keep (IsX.xt ⟨p, rfl⟩ _) hb c4)))))
            refine wpQuiet_nil ?_
            rintro _ ⟨q, rfl⟩
            go_wp2
            go_roundw
            case rel => exact ⟨j + 1 + 1, by omega, by go_num, good_step HA.out (good_succ HO.out (by simp [OfferD.geB, HG.out])), IsX.xt ⟨p, rfl⟩ q⟩
            case measure => simp [intOf]; omega
    · obtain rfl : k = n := by omega
      have HG := hide (all_good (ok := OfferD.okB) (ge := OfferD.geB) (xs := xs) (fun i hi => HA.out i (by rw [HN.out]; exact hi)))
      go_wp2
      go_ret
      refine ⟨?_, ⟨p, rfl⟩⟩
      show Ending.returned (Value.bool _) = _
      rw [offersB, HG.out, Bool.and_true, ← HN.out]
      simp; omega

set_option maxHeartbeats 1600000 in
theorem c_ValidOffers (A : Option Addr) (c : Nat) (xs : List OfferD) (w : World) (hn : xs.length ≤ 1099511627776) (hw : ∀ x ∈ xs, x.wf) (hA : Rd OfferD.cells 5 w A xs) :
    Calls Tryz.prog 19 #[.slice A xs.length c] w fun e w' => e = .returned (.bool (offersB xs)) ∧ IsX w w' := by
  by_cases hlen : 16 < xs.length
  · have HR := hide (show offersB xs = false by rw [offersB, decide_eq_false (by omega)]; simp)
    generalize xs.length = n at hn hlen ⊢
    go_enter Tryz.func19, Tryz.ntmps19
    go_wp2
    go_ret
    exact ⟨by rw [HR.out]; rfl, IsX.refl _⟩
  obtain ⟨n, hnn⟩ : ∃ n, n = xs.length := ⟨_, rfl⟩
  have HN := hide hnn
  rw [← hnn] at hn hlen ⊢
  clear hnn
  have HW := hide hw
  clear hw
  have hA0 := hA
  go_enter Tryz.func19, Tryz.ntmps19
  go_wp2
  go_loopw [10] (fun i wr => ∃ k : Nat, k ≤ n ∧ i = .int .i64 k ∧ (∀ i, i < k → goodAt OfferD.okB OfferD.geB xs i = true) ∧ IsX w wr) (fun i _ => n - (intOf i).toNat)
  case atStart => exact ⟨0, Nat.zero_le _, rfl, fun i hi => absurd hi (by omega), IsX.refl _⟩
  case round =>
    obtain ⟨k, hk, rfl, hall, p, rfl⟩ := hrel
    have HA := hide hall
    clear hall
    by_cases hlt : k < n
    · have hltx : k < xs.length := HN.out ▸ hlt
      clear hA0
      obtain ⟨b, off, rfl, hb, c0, c1, c2, c3, c4⟩ := OfferD.rd hA (show xs[k]? = some xs[k] from List.getElem?_eq_getElem _)
      have hs0 : xs[k].Id.size ≤ maxLen := by have := HW.out _ (List.getElem_mem hltx); simp only [OfferD.wf] at this; omega
      have hs1 : xs[k].Kind.size ≤ maxLen := by have := HW.out _ (List.getElem_mem hltx); simp only [OfferD.wf] at this; omega
      cases hok : xs[k].okB
      · have HR := hide (show offersB xs = false by simp [offersB, bad_ok hok])
        clear hA
        go_wp2
        refine wp_region_x (by kernel_rfl) (by kernel_rfl) ?_
        repeat (go_big_quiet_step ((go_at_call 25; exact call_x (c_validOffer xs[k] _ hs0 hs1))))
        refine wpQuiet_nil ?_
        rintro _ ⟨q, rfl⟩
        go_wp2
        go_ret
        exact ⟨by rw [HR.out]; rfl, IsX.xt (IsX.alloc ⟨p, rfl⟩ _) q⟩
      · have HO := hide hok
        cases k with
        | zero =>
          clear hA
          rw [show (((0 : Nat) : Int)) = 0 from rfl]
          simp only [Nat.zero_mul, Nat.add_zero] at c0 c1 c2 c3 c4
          go_wp2
          refine wp_region_x (by kernel_rfl) (by kernel_rfl) ?_
          repeat (go_big_quiet_step ((go_at_call 25; exact call_x (c_validOffer xs[0] _ hs0 hs1))))
          refine wpQuiet_nil ?_
          rintro _ ⟨q, rfl⟩
          go_wp2
          go_roundw
          case rel => exact ⟨1, by omega, by go_num, good_step HA.out (good_zero HO.out), IsX.xt (IsX.alloc ⟨p, rfl⟩ _) q⟩
          case measure => simp [intOf]; omega
        | succ j =>
          obtain ⟨b', off', e, hb', d0, d1, d2, d3, d4⟩ := OfferD.rd hA (show xs[j]? = some xs[j] from List.getElem?_eq_getElem _)
          injection e with e
          injection e with e1 e2
          subst e1 e2
          clear hA
          rw [show (((j + 1 : Nat) : Int)) = (j : Int) + 1 from rfl]
          cases hge : Op.bytesLess xs[j].Id.toList xs[j + 1].Id.toList
          · have HR := hide (show offersB xs = false by simp [offersB, bad_ge (ge := OfferD.geB) (ok := OfferD.okB) (i := j) (h := hltx) (by simp [OfferD.geB, hge])])
            go_wp2
            refine wp_region_x (by kernel_rfl) (by kernel_rfl) ?_
            repeat (go_big_quiet_step ((go_at_call 25; exact call_x (c_validOffer xs[j + 1] _ hs0 hs1))))
            refine wpQuiet_nil ?_
            rintro _ ⟨q, rfl⟩
            go_wp2
            go_ret
            exact ⟨by rw [HR.out]; rfl, IsX.xt (IsX.alloc ⟨p, rfl⟩ _) q⟩
          · have HG := hide hge
            go_wp2
            refine wp_region_x (by kernel_rfl) (by kernel_rfl) ?_
            repeat (go_big_quiet_step ((go_at_call 25; exact call_x (c_validOffer xs[j + 1] _ hs0 hs1))))
            refine wpQuiet_nil ?_
            rintro _ ⟨q, rfl⟩
            go_wp2
            go_roundw
            case rel => exact ⟨j + 1 + 1, by omega, by go_num, good_step HA.out (good_succ HO.out (by simp [OfferD.geB, HG.out])), IsX.xt (IsX.alloc ⟨p, rfl⟩ _) q⟩
            case measure => simp [intOf]; omega
    · obtain rfl : k = n := by omega
      have HG := hide (all_good (ok := OfferD.okB) (ge := OfferD.geB) (xs := xs) (fun i hi => HA.out i (by rw [HN.out]; exact hi)))
      have HR := hide (show offersB xs = true by rw [offersB, HG.out, decide_eq_true (by rw [← HN.out]; omega)]; rfl)
      go_wp2
      go_ret
      exact ⟨by rw [HR.out]; rfl, ⟨p, rfl⟩⟩

theorem c_specValidOffers (A : Option Addr) (c : Nat) (xs : List OfferD) (w : World) (hn : xs.length ≤ 1099511627776) (hw : ∀ x ∈ xs, x.wf) (hA : Rd OfferD.cells 5 w A xs) :
    Calls Tryz.prog 13 #[.slice A xs.length c] w fun e w' => e = .returned (.bool (offersB xs)) ∧ IsX w w' := by
  go_enter Tryz.func13, Tryz.ntmps13
  go_wp2_with fail
  refine (c_l22Ok A c xs w hn hw hA).mono ?_
  rintro e w1 ⟨rfl, hx⟩
  go_wp2_with fail
  go_ret
  exact ⟨rfl, hx⟩

end Go.Proofs.YtmipphgekcdaoaaGreatDoor
