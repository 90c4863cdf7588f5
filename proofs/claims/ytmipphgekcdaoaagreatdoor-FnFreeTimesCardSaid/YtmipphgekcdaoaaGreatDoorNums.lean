/- Small functions over lists of numbers: what they compute. Conditions: lists no longer than 2^40. -/
import Derived.Test.YtmipphgekcdaoaaGreatDoorLInt64
import Derived.Test.YtmipphgekcdaoaaGreatDoorNames
import Derived.Test.YtmipphgekcdaoaaGreatDoorLists
namespace Go.Proofs.YtmipphgekcdaoaaGreatDoor
set_option linter.unusedVariables false
open Go.RowKit

def geI (x y : Int) : Bool := decide (y ≤ x)
def risesB (xs : List Int) (lo hi : Int) : Bool := allGood (fun n => inB n lo hi) geI xs

set_option maxHeartbeats 1600000 in
theorem c_areIndices (A : Option Addr) (c : Nat) (xs : List Int) (m : Int) (w : World) (hn : xs.length ≤ 1099511627776) (hm0 : 0 ≤ m) (hm1 : m ≤ 1099511627776) (hA : Rd intC 1 w A xs) :
    Calls Tryz.prog 20 #[.slice A xs.length c, .int .i64 m] w fun e w' => e = .returned (.bool (risesB xs 0 (m - 1))) ∧ IsX w w' := by
  obtain ⟨n, hnn⟩ : ∃ n, n = xs.length := ⟨_, rfl⟩
  have HN := hide hnn
  rw [← hnn] at hn ⊢
  clear hnn
  go_enter Tryz.func20, Tryz.ntmps20
  go_wp2
  go_loopw [9] (fun i wr => ∃ k : Nat, k ≤ n ∧ i = .int .i64 k ∧ (∀ i, i < k → goodAt (fun n => inB n 0 (m - 1)) geI xs i = true) ∧ IsX w wr) (fun i _ => n - (intOf i).toNat)
  case atStart => exact ⟨0, Nat.zero_le _, rfl, fun i hi => absurd hi (by omega), IsX.refl _⟩
  case round =>
    obtain ⟨k, hk, rfl, hall, p, rfl⟩ := hrel
    have HA := hide hall
    clear hall
    by_cases hlt : k < n
    · have hltx : k < xs.length := HN.out ▸ hlt
      obtain ⟨b, off, rfl, hb, c0⟩ := int_rd hA (show xs[k]? = some xs[k] from List.getElem?_eq_getElem _)
      cases hok : inB xs[k] 0 (m - 1)
      · have HR := hide (show risesB xs 0 (m - 1) = false by simp only [risesB]; exact bad_ok (i := k) (h := hltx) hok)
        clear hA
        go_wp2_with (go_at_call 38; refine (c_within _ _ _ _).mono ?_; rintro e w' ⟨rfl, rfl⟩)
        go_ret
        exact ⟨by rw [HR.out]; rfl, ⟨p, rfl⟩⟩
      · cases k with
        | zero =>
          clear hA
          rw [show (((0 : Nat) : Int)) = 0 from rfl]
          simp only [Nat.add_zero] at c0
          have HG := hide (good_step HA.out (good_zero (ge := geI) (ok := fun n => inB n 0 (m - 1)) (h := hltx) hok))
          go_wp2_with (go_at_call 38; refine (c_within _ _ _ _).mono ?_; rintro e w' ⟨rfl, rfl⟩)
          go_roundw
          case rel => exact ⟨1, by omega, by go_num, HG.out, ⟨p, rfl⟩⟩
          case measure => simp [intOf]; omega
        | succ j =>
          obtain ⟨b', off', e, hb', d0⟩ := int_rd hA (show xs[j]? = some xs[j] from List.getElem?_eq_getElem _)
          injection e with e
          injection e with e1 e2
          subst e1 e2
          clear hA
          rw [show (((j + 1 : Nat) : Int)) = (j : Int) + 1 from rfl]
          by_cases hge : xs[j + 1] ≤ xs[j]
          · have HR := hide (show risesB xs 0 (m - 1) = false by simp only [risesB]; exact bad_ge (i := j) (h := hltx) (by simp [geI, hge]))
            go_wp2_with (go_at_call 38; refine (c_within _ _ _ _).mono ?_; rintro e w' ⟨rfl, rfl⟩)
            go_ret
            exact ⟨by rw [HR.out]; rfl, ⟨p, rfl⟩⟩
          · have HG := hide (good_step HA.out (good_succ (ge := geI) (ok := fun n => inB n 0 (m - 1)) (h := hltx) hok (by simp only [geI]; exact decide_eq_false hge)))
            go_wp2_with (go_at_call 38; refine (c_within _ _ _ _).mono ?_; rintro e w' ⟨rfl, rfl⟩)
            go_roundw
            case rel => exact ⟨j + 1 + 1, by omega, by go_num, HG.out, ⟨p, rfl⟩⟩
            case measure => simp [intOf]; omega
    · obtain rfl : k = n := by omega
      have HR := hide (show risesB xs 0 (m - 1) = true from all_good (fun i hi => HA.out i (by rw [HN.out]; exact hi)))
      go_wp2
      go_ret
      exact ⟨by rw [HR.out]; rfl, ⟨p, rfl⟩⟩

theorem rises_mem {xs : List Int} {lo hi : Int} (h : risesB xs lo hi = true) : ∀ x ∈ xs, lo ≤ x ∧ x ≤ hi := fun x hx => inB_true.1 (allGood_ok (ok := fun n => inB n lo hi) h x hx)
theorem rises_lt {xs : List Int} {lo hi : Int} (h : risesB xs lo hi = true) {i : Nat} (hi : i + 1 < xs.length) : xs[i]'(by omega) < xs[i + 1] := by
  have := allGood_lt (ge := geI) h hi
  simp only [geI, decide_eq_false_iff_not] at this
  omega
theorem rises_all {xs : List Int} {lo hi : Int} (h : risesB xs lo hi = true) (i : Nat) : ∀ d (hd : i + d + 1 < xs.length), xs[i]'(by omega) < xs[i + d + 1]
  | 0, hd => rises_lt h hd
  | d + 1, hd => by
    have h1 := rises_all h i d (by omega)
    have h2 := rises_lt h (i := i + d + 1) hd
    exact Int.lt_trans h1 h2
theorem rises_pair {xs : List Int} {lo hi : Int} (h : risesB xs lo hi = true) {i j : Nat} (hij : i < j) (hj : j < xs.length) : xs[i]'(by omega) < xs[j] := by
  have := rises_all h i (j - i - 1) (by omega)
  have e : i + (j - i - 1) + 1 = j := by omega
  simpa only [e] using this

end Go.Proofs.YtmipphgekcdaoaaGreatDoor
