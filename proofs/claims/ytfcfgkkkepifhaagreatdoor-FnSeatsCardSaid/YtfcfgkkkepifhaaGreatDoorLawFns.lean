/- What the law's own helpers answer. Conditions: told with each. -/
import Derived.Test.YtfcfgkkkepifhaaGreatDoorDrawRings
import Derived.Test.YtfcfgkkkepifhaaGreatDoorOpenSeatsFns
namespace Go.Proofs.YtfcfgkkkepifhaaGreatDoor
set_option linter.unusedVariables false
open Go.RowKit

theorem c_r8Long (A : Option Addr) (n c : Nat) (A' : Option Addr) (n' c' : Nat) (w : World) : Calls Tryz.prog 5 #[.slice A n c, .slice A' n' c'] w fun e w' => e = .returned (.bool (decide ((n : Int) > 1048576) || decide ((n' : Int) > 1048576))) ∧ w = w' := by
  by_cases h : 1048576 < n
  · have hd : decide ((n : Int) > 1048576) = true := decide_eq_true (by omega)
    go_enter Tryz.func5, Tryz.ntmps5
    go_wp2
    go_ret
    exact ⟨by rw [hd]; rfl, rfl⟩
  · have hd : decide ((n : Int) > 1048576) = false := decide_eq_false (by omega)
    go_enter Tryz.func5, Tryz.ntmps5
    go_wp2
    go_ret
    refine ⟨?_, rfl⟩
    rw [hd, Bool.false_or]
    simp
theorem c_r8At (A : Option Addr) (c : Nat) (bs : List Int) (k n : Int) (w : World) (hk : 0 ≤ k) (hn0 : 1 < n) (hn1 : n ≤ 1000000) (hl : bs.length ≤ 1048576) (hb : ∀ x ∈ bs, byteWf x) (hA : Rd byteC 1 w A bs) :
    Calls Tryz.prog 9 #[.slice A bs.length c, .int .i64 k, .int .i64 n] w fun e w' => ∃ v : Int, e = .returned (.int .i64 v) ∧ 0 ≤ v ∧ v < n ∧ w = w' := by
  obtain ⟨m, hm⟩ : ∃ m, m = bs.length := ⟨_, rfl⟩
  have HM := hide hm
  rw [← hm] at hl ⊢
  clear hm
  have g0 : decide (n ≤ 1) = false := decide_eq_false (by omega)
  by_cases hlt : k < (m : Int)
  · have hltx : k.toNat < bs.length := by have := HM.out; omega
    obtain ⟨b, off, rfl, hbl, c0⟩ := byte_rd hA (show bs[k.toNat]? = some bs[k.toNat] from List.getElem?_eq_getElem _)
    obtain ⟨v0, v1⟩ := hb _ (List.getElem_mem hltx)
    generalize bs[k.toNat] = v at c0 v0 v1
    have hm0 : 0 ≤ v % n := Int.emod_nonneg _ (by omega)
    have hm1 : v % n < n := Int.emod_lt_of_pos _ (by omega)
    have hnn : ¬ n = 0 := by omega
    have g1 : decide ((m : Int) ≤ k) = false := decide_eq_false (by omega)
    clear hb hA
    go_enter Tryz.func9, Tryz.ntmps9
    go_wp2_with fail
    go_ret
    exact ⟨v % n, rfl, hm0, hm1, rfl⟩
  · have g1 : decide ((m : Int) ≤ k) = true := decide_eq_true (by omega)
    clear hb hA
    go_enter Tryz.func9, Tryz.ntmps9
    go_wp2_with fail
    go_ret
    exact ⟨0, rfl, Int.le_refl _, by omega, rfl⟩
set_option maxHeartbeats 800000 in
theorem c_r8Has (A : Option Addr) (c : Nat) (xs : List Int) (k : Int) (w : World) (hn : xs.length ≤ 1099511627776) (hA : Rd intC 1 w A xs) :
    Calls Tryz.prog 26 #[.slice A xs.length c, .int .i64 k] w fun e w' => e = .returned (.bool (hasB xs k)) ∧ IsX w w' := by
  obtain ⟨n, hnn⟩ : ∃ n, n = xs.length := ⟨_, rfl⟩
  have HN := hide hnn
  rw [← hnn] at hn ⊢
  clear hnn
  go_enter Tryz.func26, Tryz.ntmps26
  go_wp2
  go_loopw [5] (fun i wr => ∃ q : Nat, q ≤ n ∧ i = .int .i64 q ∧ Hid (∀ i (h : i < xs.length), i < q → xs[i] ≠ k) ∧ IsX w wr) (fun i _ => n - (intOf i).toNat)
  case atStart => exact ⟨0, Nat.zero_le _, rfl, hide (fun i h hi => absurd hi (by omega)), IsX.refl _⟩
  case round =>
    obtain ⟨q, hq, rfl, HF, p, rfl⟩ := hrel
    by_cases hlt : q < n
    · have hltx : q < xs.length := HN.out ▸ hlt
      obtain ⟨b, off, rfl, hb, c0⟩ := int_rd hA (show xs[q]? = some xs[q] from List.getElem?_eq_getElem _)
      clear hA
      by_cases he : xs[q] = k
      · have HR := hide (has_yes hltx he)
        have hbe : (xs[q] == k) = true := by simpa using he
        clear he
        go_wp2
        go_ret
        exact ⟨by rw [HR.out]; rfl, ⟨p, rfl⟩⟩
      · have hbe : (xs[q] == k) = false := by simpa using he
        have HF' := hide (show ∀ i (h : i < xs.length), i < q + 1 → xs[i] ≠ k from fun i h hi => by
          by_cases e : i = q
          · subst e; exact he
          · exact HF.out i h (by omega))
        clear he
        go_wp2
        go_roundw
        case rel => exact ⟨q + 1, by omega, by go_num, HF', ⟨p, rfl⟩⟩
        case measure => simp [intOf]; omega
    · obtain rfl : q = n := by omega
      have HR := hide (has_no (k := k) (fun i h => HF.out i h (by have := HN.out; omega)))
      clear hA
      go_wp2
      go_ret
      exact ⟨by rw [HR.out]; rfl, ⟨p, rfl⟩⟩

end Go.Proofs.YtfcfgkkkepifhaaGreatDoor
