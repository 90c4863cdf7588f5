/- What the law's own helpers answer, and lists looked up step by step. Conditions: told with each. -/
import Derived.Test.YtmipphgekcdaoaaGreatDoorFreeFnLaw
import Derived.Test.YtmipphgekcdaoaaGreatDoorNumsOwn
namespace Go.Proofs.YtmipphgekcdaoaaGreatDoor
set_option linter.unusedVariables false
open Go.RowKit

theorem c_b10Long (A : Option Addr) (n c : Nat) (w : World) : Calls Tryz.prog 4 #[.slice A n c] w fun e w' => e = .returned (.bool (decide ((n : Int) > 1048576))) ∧ w = w' := by
  go_enter Tryz.func4, Tryz.ntmps4
  go_wp2
  go_ret
  exact ⟨rfl, rfl⟩

set_option maxHeartbeats 1600000 in
theorem c_b10Rises (A : Option Addr) (c : Nat) (ps : List Int) (n : Int) (w : World) (hl : ps.length ≤ 1048576) (hn : n ≤ 1048576) (hr : risesB ps 0 (n - 1) = true) (hA : Rd intC 1 w A ps) :
    Calls Tryz.prog 7 #[.slice A ps.length c, .int .i64 n] w fun e w' => e = .returned (.bool true) ∧ IsX w w' := by
  have HA := hide hA
  have HR := hide hr
  obtain ⟨m, hm⟩ : ∃ m, m = ps.length := ⟨_, rfl⟩
  have HM := hide hm
  rw [← hm] at hl ⊢
  clear hA hm hr
  go_enter Tryz.func7, Tryz.ntmps7
  go_wp2
  go_loopw [5] (fun iv wr => ∃ k : Nat, k ≤ m ∧ iv = .int .i64 k ∧ IsX w wr) (fun iv _ => m - (intOf iv).toNat)
  case atStart => exact ⟨0, Nat.zero_le _, rfl, IsX.refl _⟩
  case round =>
    obtain ⟨k, hk, rfl, p, rfl⟩ := hrel
    by_cases hlt : k < m
    · have hltx : k < ps.length := HM.out ▸ hlt
      obtain ⟨b, off, rfl, hb, c0⟩ := int_rd (HA.out.x ⟨p, rfl⟩) (show ps[k]? = some ps[k] from List.getElem?_eq_getElem _)
      have hv := rises_mem HR.out _ (List.getElem_mem hltx)
      cases k with
      | zero =>
        rw [show (((0 : Nat) : Int)) = 0 from rfl]
        rw [Nat.add_zero] at c0
        generalize ps[0] = v at *
        obtain ⟨v0, v1⟩ := hv
        have v2 : v < n := by omega
        have g1 : decide (v < 0) = false := decide_eq_false (by omega)
        have g2 : decide (v ≥ n) = false := decide_eq_false (by omega)
        have g3 : decide ((0 : Int) > 0) = false := rfl
        go_wp2_with fail
        refine wp_region_x (by kernel_rfl) (by kernel_rfl) ?_
        repeat (go_big_quiet_step (fail))
        refine wpQuiet_nil ?_
        rintro _ ⟨q, rfl⟩
        go_wp2_with fail
        go_roundw
        case rel => exact ⟨1, by omega, by go_num, IsX.xt ⟨p, rfl⟩ q⟩
        case measure => simp [intOf]; omega
      | succ j =>
        obtain ⟨b', off', e', hb', c1⟩ := int_rd (HA.out.x ⟨p, rfl⟩) (show ps[j]? = some ps[j] from List.getElem?_eq_getElem _)
        injection e' with e'
        injection e' with f1 f2
        subst f1 f2
        have hlt2 := rises_lt HR.out (i := j) hltx
        generalize ps[j + 1] = v at *
        generalize ps[j] = u at *
        obtain ⟨v0, v1⟩ := hv
        have v2 : v < n := by omega
        have g1 : decide (v < 0) = false := decide_eq_false (by omega)
        have g2 : decide (v ≥ n) = false := decide_eq_false (by omega)
        have g3 : decide ((j : Int) + 1 > 0) = true := decide_eq_true (by omega)
        have g4 : decide (u ≥ v) = false := decide_eq_false (by omega)
        rw [show (((j + 1 : Nat)) : Int) = (j : Int) + 1 from rfl]
        go_wp2_with fail
        refine wp_region_x (by kernel_rfl) (by kernel_rfl) ?_
        repeat (go_big_quiet_step (fail))
        refine wpQuiet_nil ?_
        rintro _ ⟨q, rfl⟩
        go_wp2_with fail
        go_roundw
        case rel => exact ⟨j + 1 + 1, by omega, by go_num, IsX.xt ⟨p, rfl⟩ q⟩
        case measure => simp [intOf]; omega
    · obtain rfl : k = m := by omega
      go_wp2_with fail
      go_ret
      exact ⟨rfl, ⟨p, rfl⟩⟩
/-- the end of the free time ahead of the i-th -/
def endTo (op : Int) (Z : List (Int × Int)) : Nat → Int
  | 0 => op
  | i + 1 => match Z[i]? with | some p => p.2 | none => op
theorem endTo_succ {op : Int} {Z : List (Int × Int)} {i : Nat} (h : i < Z.length) : endTo op Z (i + 1) = Z[i].2 := by simp [endTo, List.getElem?_eq_getElem h]
theorem endTo_le {op en : Int} {Z : List (Int × Int)} {i : Nat} (h : i < Z.length) (hp : Z.Pairwise fun p q => p.2 < q.1) (he : ∀ p ∈ Z, op ≤ p.1 ∧ p.1 < p.2 ∧ p.2 ≤ en) : endTo op Z i ≤ Z[i].1 ∧ (0 < i → endTo op Z i < Z[i].1) := by
  cases i with
  | zero => exact ⟨(he _ (List.getElem_mem h)).1, fun h => absurd h (by omega)⟩
  | succ j =>
    rw [endTo_succ (show j < Z.length by omega)]
    have := List.pairwise_iff_getElem.1 hp j (j + 1) (by omega) h (by omega)
    exact ⟨by omega, fun _ => this⟩
def busyTo (xs : List OfferD) (ps : List Int) (m : Int) (i : Nat) : Bool := (ps.take i).any fun o => decide (startAt xs o ≤ m) && decide (m < startAt xs o + lenAt xs o)
theorem busyTo_succ {xs : List OfferD} {ps : List Int} {m : Int} {i : Nat} (h : i < ps.length) : busyTo xs ps m (i + 1) = (busyTo xs ps m i || (decide (startAt xs ps[i] ≤ m) && decide (m < startAt xs ps[i] + lenAt xs ps[i]))) := by
  unfold busyTo
  rw [List.take_succ_eq_append_getElem h, List.any_append]
  simp
theorem busyTo_all {xs : List OfferD} {ps : List Int} {m : Int} : busyTo xs ps m ps.length = true ↔ Busy xs ps m := by
  unfold busyTo Busy
  rw [List.take_length, List.any_eq_true]
  simp only [Bool.and_eq_true, decide_eq_true_eq]
def inTo (Z : List (Int × Int)) (m : Int) (i : Nat) : Bool := (Z.take i).any fun p => decide (p.1 ≤ m) && decide (m < p.2)
theorem inTo_succ {Z : List (Int × Int)} {m : Int} {i : Nat} (h : i < Z.length) : inTo Z m (i + 1) = (inTo Z m i || (decide (Z[i].1 ≤ m) && decide (m < Z[i].2))) := by
  unfold inTo
  rw [List.take_succ_eq_append_getElem h, List.any_append]
  simp
theorem inTo_all {Z : List (Int × Int)} {m : Int} : inTo Z m Z.length = true ↔ InL Z m := by
  unfold inTo InL
  rw [List.take_length, List.any_eq_true]
  simp only [Bool.and_eq_true, decide_eq_true_eq]
theorem busy_in {xs : List OfferD} {ps : List Int} {Z : List (Int × Int)} {m : Int} (h : InL Z m ↔ ¬ Busy xs ps m) : (busyTo xs ps m ps.length == inTo Z m Z.length) = false := by
  rw [← inTo_all, ← busyTo_all] at h
  cases h1 : busyTo xs ps m ps.length <;> cases h2 : inTo Z m Z.length <;> simp_all
end Go.Proofs.YtmipphgekcdaoaaGreatDoor
