/- What the law's own helpers answer: a choice, and whether a text is in a list. Conditions: told with each. -/
import Derived.Test.YtegehdhdlljikaaDraws
import Derived.Test.YtegehdhdlljikaaLastRunFns
namespace Go.Proofs.Ytegehdhdlljikaa
set_option linter.unusedVariables false
open Go.RowKit

theorem c_r8Long (A : Option Addr) (n c : Nat) (A' : Option Addr) (n' c' : Nat) (w : World) : Calls Try.prog 4 #[.slice A n c, .slice A' n' c'] w fun e w' => e = .returned (.bool (decide ((n : Int) > 1048576) || decide ((n' : Int) > 1048576))) ∧ w = w' := by
  by_cases h : 1048576 < n
  · have hd : decide ((n : Int) > 1048576) = true := decide_eq_true (by omega)
    go_enter Try.func4, Try.ntmps4
    go_wp2
    go_ret
    exact ⟨by rw [hd]; rfl, rfl⟩
  · have hd : decide ((n : Int) > 1048576) = false := decide_eq_false (by omega)
    go_enter Try.func4, Try.ntmps4
    go_wp2
    go_ret
    refine ⟨?_, rfl⟩
    rw [hd, Bool.false_or]
    simp
theorem c_r8At (A : Option Addr) (c : Nat) (bs : List Int) (k n : Int) (w : World) (hk : 0 ≤ k) (hn0 : 1 < n) (hn1 : n ≤ 1000000) (hl : bs.length ≤ 1048576) (hb : ∀ x ∈ bs, byteWf x) (hA : Rd byteC 1 w A bs) :
    Calls Try.prog 14 #[.slice A bs.length c, .int .i64 k, .int .i64 n] w fun e w' => ∃ v : Int, e = .returned (.int .i64 v) ∧ 0 ≤ v ∧ v < n ∧ w = w' := by
  obtain ⟨m, hm⟩ : ∃ m, m = bs.length := ⟨_, rfl⟩
  have HM := hide hm
  rw [← hm] at hl ⊢
  clear hm
  have g0 : decide (n ≤ 1) = false := decide_eq_false (by omega)
  by_cases hlt : k < (m : Int)
  · have hltx : k.toNat < bs.length := by have := HM.out; omega
    obtain ⟨b, off, rfl, hbl, c0⟩ := byte_rd hA (show bs[k.toNat]? = some bs[k.toNat] from List.getElem?_eq_getElem _)
    obtain ⟨v0, v1⟩ := hb _ (List.getElem_mem hltx)
    generalize bs[k.toNat] = v at c0 v0 v1
    have hm0 : 0 ≤ v % n := Int.emod_nonneg _ (by omega)
    have hm1 : v % n < n := Int.emod_lt_of_pos _ (by omega)
    have hnn : ¬ n = 0 := by omega
    have g1 : decide ((m : Int) ≤ k) = false := decide_eq_false (by omega)
    clear hb hA
    go_enter Try.func14, Try.ntmps14
    go_wp2_with fail
    go_ret
    exact ⟨v % n, rfl, hm0, hm1, rfl⟩
  · have g1 : decide ((m : Int) ≤ k) = true := decide_eq_true (by omega)
    clear hb hA
    go_enter Try.func14, Try.ntmps14
    go_wp2_with fail
    go_ret
    exact ⟨0, rfl, Int.le_refl _, by omega, rfl⟩

set_option maxHeartbeats 800000 in
theorem c_r8HasText (A : Option Addr) (c : Nat) (xs : List ByteArray) (cue : ByteArray) (w : World) (hn : xs.length ≤ 1099511627776) (hA : Rd strC 1 w A xs) :
    Calls Try.prog 10 #[.slice A xs.length c, .string cue] w fun e w' => e = .returned (.bool (hasStr cue xs)) ∧ IsX w w' := by
  obtain ⟨n, hnn⟩ : ∃ n, n = xs.length := ⟨_, rfl⟩
  have HN := hide hnn
  rw [← hnn] at hn ⊢
  clear hnn
  go_enter Try.func10, Try.ntmps10
  go_wp2
  go_loopw [5] (fun i wr => ∃ k : Nat, k ≤ n ∧ i = .int .i64 k ∧ (∀ i (h : i < xs.length), i < k → (fun x : ByteArray => x.toList == cue.toList) xs[i] = false) ∧ IsX w wr) (fun i _ => n - (intOf i).toNat)
  case atStart => exact ⟨0, Nat.zero_le _, rfl, fun i h hi => absurd hi (by omega), IsX.refl _⟩
  case round =>
    obtain ⟨k, hk, rfl, hall, p, rfl⟩ := hrel
    have HA := hide hall
    clear hall
    by_cases hlt : k < n
    · have hltx : k < xs.length := HN.out ▸ hlt
      obtain ⟨b, off, rfl, hb, c0⟩ := str_rd hA (show xs[k]? = some xs[k] from List.getElem?_eq_getElem _)
      clear hA
      cases hp : (xs[k].toList == cue.toList)
      · have HP := hide hp
        have hp2 : (cue.toList == xs[k].toList) = false := by simp only [beq_eq_false_iff_ne] at hp ⊢; exact fun e => hp e.symm
        go_wp2
        go_roundw
        case rel => exact ⟨k + 1, by omega, by go_num, step_all (p := fun x : ByteArray => x.toList == cue.toList) hltx HA.out HP.out, ⟨p, rfl⟩⟩
        case measure => simp [intOf]; omega
      · have HR := hide (show hasStr cue xs = true from List.any_eq_true.2 ⟨xs[k], List.getElem_mem hltx, hp⟩)
        have hp2 : (cue.toList == xs[k].toList) = true := by simp only [beq_iff_eq] at hp ⊢; exact hp.symm
        go_wp2
        go_ret
        exact ⟨by rw [HR.out]; rfl, ⟨p, rfl⟩⟩
    · have HR := hide (show hasStr cue xs = false from List.any_eq_false.2 (fun x hx => by obtain ⟨i, hi, rfl⟩ := List.getElem_of_mem hx; have := HA.out i hi (by have := HN.out; omega); simpa using this))
      go_wp2
      go_ret
      exact ⟨by rw [HR.out]; rfl, ⟨p, rfl⟩⟩
end Go.Proofs.Ytegehdhdlljikaa
