/- Rows and places of groups: what the reference and the program compute. Conditions: those of Groups. -/
import Derived.Test.YteeafdbfimdddaaGroupFns
namespace Go.Proofs.Yteeafdbfimdddaa
set_option linter.unusedVariables false
open Go.RowKit

def rowB (n : Int) : Bool := inB n 0 40
def placeB (n : Int) : Bool := inB n (-1) 9
def rowsB (xs : List Int) : Bool := decide (xs.length ≤ 10) && xs.all rowB

def rowsNot (n : Int) : Bool := !rowB n
theorem c_clo_rows (n : Int) (w : World) : Calls Try.prog 124 #[.int .i64 n] w fun e w' => e = .returned (.bool (rowsNot n)) ∧ IsX w w' := by
  go_enter Try.func124, Try.ntmps124
  go_wp2_with fail
  refine (c_within n 0 40 w).mono ?_
  rintro e w' ⟨rfl, rfl⟩
  go_wp2_with fail
  go_ret
  exact ⟨rfl, IsX.refl _⟩

set_option maxHeartbeats 400000 in
theorem c_Index_rows (A : Option Addr) (c : Nat) (xs : List Int) (w : World) (hn : xs.length ≤ 1099511627776) (hA : Rd intC 1 w A xs) :
    Calls Try.prog 144 #[.slice A xs.length c, .func (.func 124) #[] #[]] w fun e w' => e = .returned (.int .i64 (idxI rowsNot xs)) ∧ IsX w w' := by
  obtain ⟨n, hnn⟩ : ∃ n, n = xs.length := ⟨_, rfl⟩
  have HN := hide hnn
  rw [← hnn] at hn ⊢
  clear hnn
  go_enter Try.func144, Try.ntmps144
  go_wp2
  go_loopw [8] (fun i wr => ∃ k : Nat, k ≤ n ∧ i = .int .i64 k ∧ (∀ i (h : i < xs.length), i < k → rowsNot xs[i] = false) ∧ IsX w wr) (fun i _ => n - (intOf i).toNat)
  case atStart => exact ⟨0, Nat.zero_le _, rfl, fun i h hi => absurd hi (by omega), IsX.refl _⟩
  case round =>
    obtain ⟨k, hk, rfl, hall, p, rfl⟩ := hrel
    have HA := hide hall
    clear hall
    by_cases hlt : k < n
    · have hltx : k < xs.length := HN.out ▸ hlt
      obtain ⟨b, off, rfl, hb, c0⟩ := int_rd hA (show xs[k]? = some xs[k] from List.getElem?_eq_getElem _)
      clear hA
      cases hp : rowsNot xs[k]
      · have HP := hide hp
        go_wp2_with (go_at_call 124; refine (c_clo_rows xs[k] _).mono ?_; rintro e w1 ⟨rfl, q, rfl⟩)
        go_roundw
        case rel => exact ⟨k + 1, by omega, by go_num, step_all hltx HA.out HP.out, IsX.xt ⟨p, rfl⟩ q⟩
        case measure => simp [intOf]; omega
      · have HR := hide (idxI_at hltx HA.out hp)
        go_wp2_with (go_at_call 124; refine (c_clo_rows xs[k] _).mono ?_; rintro e w1 ⟨rfl, q, rfl⟩)
        go_ret
        exact ⟨by rw [HR.out]; rfl, IsX.xt ⟨p, rfl⟩ q⟩
    · have HR := hide (idxI_none (p := rowsNot) (xs := xs) (fun i h => HA.out i h (by have := HN.out; omega)))
      go_wp2
      go_ret
      exact ⟨by rw [HR.out]; rfl, ⟨p, rfl⟩⟩

theorem c_Contains_rows (A : Option Addr) (c : Nat) (xs : List Int) (w : World) (hn : xs.length ≤ 1099511627776) (hA : Rd intC 1 w A xs) :
    Calls Try.prog 123 #[.slice A xs.length c, .func (.func 124) #[] #[]] w fun e w' => e = .returned (.bool (xs.any rowsNot)) ∧ IsX w w' := by
  have HI := hide (idxI_ge rowsNot xs)
  go_enter Try.func123, Try.ntmps123
  go_wp2_with fail
  refine (c_Index_rows A c xs w hn hA).mono ?_
  rintro e w1 ⟨rfl, hx⟩
  go_wp2_with fail
  go_ret
  exact ⟨by rw [← HI.out.2.2]; rfl, hx⟩

set_option maxHeartbeats 800000 in
theorem c_ValidRows (A0 : Option Addr) (c0 : Nat) (xs0 : List Int) (w : World) (hn0 : xs0.length ≤ 1099511627776) (hw0 : ∀ x ∈ xs0, intWf x) (hA0 : Rd intC 1 w A0 xs0) :
    Calls Try.prog 81 #[.slice A0 xs0.length c0] w fun e w' => e = .returned (.bool (rowsB xs0)) ∧ IsX w w' := by
  by_cases hl : 10 < xs0.length
  · have HR := hide (show rowsB xs0 = false by rw [rowsB, decide_eq_false (by omega)]; rfl)
    generalize xs0.length = n at hn0 hl ⊢
    go_enter Try.func81, Try.ntmps81
    go_wp2_with fail
    go_ret
    exact ⟨by rw [HR.out]; rfl, IsX.refl _⟩
  have HR := hide (show rowsB xs0 = !(xs0.any rowsNot) by rw [rowsB, decide_eq_true (by omega)]; show xs0.all rowB = !(xs0.any fun n => !rowB n); rw [any_not_all]; simp)
  obtain ⟨n, hnn⟩ : ∃ n, n = xs0.length := ⟨_, rfl⟩
  have HN := hide hnn
  rw [← hnn] at hn0 hl ⊢
  clear hnn
  go_enter Try.func81, Try.ntmps81
  go_wp2_with fail
  rw [show n = xs0.length from HN.out]
  refine (c_Contains_rows A0 c0 xs0 w (HN.out ▸ hn0) hA0).mono ?_
  rintro e w1 ⟨rfl, hx⟩
  go_wp2_with fail
  go_ret
  exact ⟨by rw [HR.out]; rfl, hx⟩

set_option maxHeartbeats 800000 in
theorem c_l24Rows (A0 : Option Addr) (c0 : Nat) (xs0 : List Int) (w : World) (hn0 : xs0.length ≤ 1099511627776) (hw0 : ∀ x ∈ xs0, intWf x) (hA0 : Rd intC 1 w A0 xs0) :
    Calls Try.prog 77 #[.slice A0 xs0.length c0] w fun e w' => e = .returned (.bool (rowsB xs0)) ∧ IsX w w' := by
  obtain ⟨n, hnn⟩ : ∃ n, n = xs0.length := ⟨_, rfl⟩
  have HN := hide hnn
  rw [← hnn] at hn0 ⊢
  clear hnn
  go_enter Try.func77, Try.ntmps77
  go_wp2
  go_loopw [3] (fun i wr => ∃ k : Nat, k ≤ n ∧ i = .int .i64 k ∧ (∀ i (h : i < xs0.length), i < k → rowB xs0[i] = true) ∧ IsX w wr) (fun i _ => n - (intOf i).toNat)
  case atStart => exact ⟨0, Nat.zero_le _, rfl, fun i h hi => absurd hi (by omega), IsX.refl _⟩
  case round =>
    obtain ⟨k, hk, rfl, hall, p, rfl⟩ := hrel
    have HA := hide hall
    clear hall
    by_cases hlt : k < n
    · have hltx : k < xs0.length := HN.out ▸ hlt
      obtain ⟨b, off, rfl, hb, d0⟩ := int_rd hA0 (show xs0[k]? = some xs0[k] from List.getElem?_eq_getElem _)
      clear hA0
      cases hp : inB xs0[k] 0 40
      · have HR := hide (show rowsB xs0 = false by rw [rowsB, all_not hltx (show rowB xs0[k] = false from hp), Bool.and_false])
        go_wp2_with (go_at_call 120; refine (c_in _ _ _ _).mono ?_; rintro e w' ⟨rfl, rfl⟩)
        go_ret
        exact ⟨by rw [HR.out]; rfl, ⟨p, rfl⟩⟩
      · have HP := hide hp
        go_wp2_with (go_at_call 120; refine (c_in _ _ _ _).mono ?_; rintro e w' ⟨rfl, rfl⟩)
        go_roundw
        case rel => exact ⟨k + 1, by omega, by go_num, step_all hltx HA.out HP.out, ⟨p, rfl⟩⟩
        case measure => simp [intOf]; omega
    · obtain rfl : k = n := by omega
      have HG := hide (all_of (p := rowB) (xs := xs0) (fun i h => HA.out i h (by have := HN.out; omega)))
      go_wp2
      go_ret
      refine ⟨?_, ⟨p, rfl⟩⟩
      show Ending.returned (Value.bool _) = _
      rw [rowsB, HG.out, Bool.and_true, ← HN.out]
      simp; omega

end Go.Proofs.Yteeafdbfimdddaa
