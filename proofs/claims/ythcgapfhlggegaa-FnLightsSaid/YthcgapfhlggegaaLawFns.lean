/- b10Rises, b10Has, b10Long: what the law's own helpers answer. Conditions: those of the theorems alone. -/
import Derived.Test.YthcgapfhlggegaaHuntMore
import Derived.Test.YthcgapfhlggegaaSearch
import Derived.Test.YthcgapfhlggegaaNumsOwn
namespace Go.Proofs.Ythcgapfhlggegaa
set_option linter.unusedVariables false
open Go.RowKit

theorem RiseTo.at_ {n : Nat} {ps : List Int} (h : RiseTo n ps) {k : Nat} (hk : k < ps.length) : ∃ j : Nat, ps[k] = (j : Int) ∧ j < n := by
  have h1 := h.2 _ (List.getElem_mem hk)
  obtain ⟨j, hj⟩ := Int.eq_ofNat_of_zero_le h1.1
  exact ⟨j, hj, by omega⟩
theorem RiseTo.lt {n : Nat} {ps : List Int} (h : RiseTo n ps) {k : Nat} (hk : k + 1 < ps.length) : ps[k] < ps[k + 1] := List.pairwise_iff_getElem.1 h.1 k (k + 1) (by omega) hk (by omega)
set_option maxHeartbeats 1600000 in
theorem c_b10Rises (A : Option Addr) (c : Nat) (ps : List Int) (n : Nat) (w : World) (hr : RiseTo n ps) (hl : ps.length ≤ 1048576) (hn : n ≤ 1048576) (hA : Rd intC 1 w A ps) :
    Calls Try.prog 11 #[.slice A ps.length c, .int .i64 (n : Int)] w fun e w' => e = .returned (.bool true) ∧ IsX w w' := by
  obtain ⟨m, hm⟩ : ∃ m, m = ps.length := ⟨_, rfl⟩
  have HM := hide hm
  rw [← hm] at hl ⊢
  clear hm
  have HR := hide hr
  have HA := hide hA
  clear hr hA
  go_enter Try.func11, Try.ntmps11
  go_wp2
  go_loopw [5] (fun iv wr => ∃ k : Nat, k ≤ m ∧ iv = .int .i64 k ∧ IsX w wr) (fun iv _ => m - (intOf iv).toNat)
  case atStart => exact ⟨0, Nat.zero_le _, rfl, IsX.refl _⟩
  case round =>
    obtain ⟨k, hk, rfl, p, rfl⟩ := hrel
    by_cases hlt : k < m
    · have hltx : k < ps.length := HM.out ▸ hlt
      obtain ⟨j, hj, hjn⟩ := HR.out.at_ hltx
      obtain ⟨b, off, rfl, hb, c0⟩ := int_rd HA.out (show ps[k]? = some ps[k] from List.getElem?_eq_getElem _)
      rw [hj] at c0
      have hj0 : (0 : Int) ≤ (j : Int) := by omega
      have hjn' : (j : Int) < (n : Int) := by omega
      cases k with
      | zero =>
        simp only [Nat.add_zero] at c0
        clear hj
        rw [show (((0 : Nat) : Int)) = 0 from rfl]
        have g0 : decide ((j : Int) < 0) = false := decide_eq_false (by omega)
        have g1 : decide (n ≤ j) = false := decide_eq_false (by omega)
        have g2 : decide ((0 : Int) < 0) = false := rfl
        go_wp2
        refine wp_region_x (by kernel_rfl) (by kernel_rfl) ?_
        repeat (go_big_quiet_step (fail))
        refine wpQuiet_nil ?_
        rintro _ ⟨q, rfl⟩
        go_wp2
        go_roundw
        case rel => exact ⟨1, by omega, by go_num, IsX.xt ⟨p, rfl⟩ q⟩
        case measure => simp [intOf]; omega
      | succ i =>
        obtain ⟨b', off', e, hb', d0⟩ := int_rd HA.out (show ps[i]? = some ps[i] from List.getElem?_eq_getElem _)
        injection e with e
        injection e with e1 e2
        subst e1 e2
        have hlt2 := HR.out.lt hltx
        rw [hj] at hlt2
        generalize ps[i] = z at d0 hlt2
        clear hj
        rw [show (((i + 1 : Nat) : Int)) = (i : Int) + 1 from rfl]
        have g0 : decide ((j : Int) < 0) = false := decide_eq_false (by omega)
        have g1 : decide (n ≤ j) = false := decide_eq_false (by omega)
        have g2 : decide ((0 : Int) < (i : Int) + 1) = true := decide_eq_true (by omega)
        have g3 : decide ((j : Int) ≤ z) = false := decide_eq_false (by omega)
        go_wp2
        refine wp_region_x (by kernel_rfl) (by kernel_rfl) ?_
        repeat (go_big_quiet_step (fail))
        refine wpQuiet_nil ?_
        rintro _ ⟨q, rfl⟩
        go_wp2
        go_roundw
        case rel => exact ⟨i + 1 + 1, by omega, by go_num, IsX.xt ⟨p, rfl⟩ q⟩
        case measure => simp [intOf]; omega
    · obtain rfl : k = m := by omega
      go_wp2
      go_ret
      exact ⟨rfl, ⟨p, rfl⟩⟩
theorem c_b10Long (A : Option Addr) (n c : Nat) (w : World) : Calls Try.prog 5 #[.slice A n c] w fun e w' => e = .returned (.bool (decide ((n : Int) > 1048576))) ∧ w = w' := by
  go_enter Try.func5, Try.ntmps5
  go_wp2
  go_ret
  exact ⟨rfl, rfl⟩
set_option maxHeartbeats 1600000 in
theorem c_b10Has (A : Option Addr) (c : Nat) (ps : List Int) (m : Nat) (v : Int) (w : World) (hm : m ≤ ps.length) (hl : m ≤ 1048576) (hne : ∀ t (h : t < ps.length), t < m → ps[t] ≠ v) (hA : Rd intC 1 w A ps) :
    Calls Try.prog 8 #[.slice A m c, .int .i64 v] w fun e w' => e = .returned (.bool false) ∧ IsX w w' := by
  have HNE := hide hne
  have HA := hide hA
  have HM := hide hm
  clear hne hA hm
  go_enter Try.func8, Try.ntmps8
  go_wp2
  go_loopw [5] (fun iv wr => ∃ k : Nat, k ≤ m ∧ iv = .int .i64 k ∧ IsX w wr) (fun iv _ => m - (intOf iv).toNat)
  case atStart => exact ⟨0, Nat.zero_le _, rfl, IsX.refl _⟩
  case round =>
    obtain ⟨k, hk, rfl, p, rfl⟩ := hrel
    by_cases hlt : k < m
    · have hltx : k < ps.length := Nat.lt_of_lt_of_le hlt HM.out
      obtain ⟨b, off, rfl, hb, c0⟩ := int_rd HA.out (show ps[k]? = some ps[k] from List.getElem?_eq_getElem _)
      have hq : (ps[k] == v) = false := by simp only [beq_eq_false_iff_ne, ne_eq]; exact HNE.out k hltx hlt
      go_wp2
      go_roundw
      case rel => exact ⟨k + 1, by omega, by go_num, ⟨p, rfl⟩⟩
      case measure => simp [intOf]; omega
    · obtain rfl : k = m := by omega
      go_wp2
      go_ret
      exact ⟨rfl, ⟨p, rfl⟩⟩
end Go.Proofs.Ythcgapfhlggegaa
