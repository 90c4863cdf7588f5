/- b10Has, b10Long: what the law's own helpers answer. Conditions: those of the theorems alone. -/
import Derived.Test.YtdedaoafihomoaaHuntMore
import Derived.Test.YtdedaoafihomoaaSearch
import Derived.Test.YtdedaoafihomoaaNumsOwn
namespace Go.Proofs.Ytdedaoafihomoaa
set_option linter.unusedVariables false
open Go.RowKit

theorem c_b10Long (A : Option Addr) (n c : Nat) (w : World) : Calls Try.prog 4 #[.slice A n c] w fun e w' => e = .returned (.bool (decide ((n : Int) > 1048576))) ∧ w = w' := by
  go_enter Try.func4, Try.ntmps4
  go_wp2
  go_ret
  exact ⟨rfl, rfl⟩
theorem dec_mem_yes {ps : List Int} {v : Int} {k : Nat} (h : k < ps.length) (e : ps[k] = v) : decide (v ∈ ps) = true := decide_eq_true (e ▸ List.getElem_mem h)
theorem dec_mem_no {ps : List Int} {v : Int} (h : ∀ j (hj : j < ps.length), ps[j] ≠ v) : decide (v ∈ ps) = false := decide_eq_false (fun hm => by
  obtain ⟨j, hj, e⟩ := List.getElem_of_mem hm
  exact h j hj e)
set_option maxHeartbeats 1600000 in
theorem c_b10Has (A : Option Addr) (c : Nat) (ps : List Int) (v : Int) (w : World) (hl : ps.length ≤ 1048576) (hA : Rd intC 1 w A ps) :
    Calls Try.prog 11 #[.slice A ps.length c, .int .i64 v] w fun e w' => e = .returned (.bool (decide (v ∈ ps))) ∧ IsX w w' := by
  have HA := hide hA
  obtain ⟨m, hm⟩ : ∃ m, m = ps.length := ⟨_, rfl⟩
  have HM := hide hm
  rw [← hm] at hl ⊢
  clear hA hm
  go_enter Try.func11, Try.ntmps11
  go_wp2
  go_loopw [5] (fun iv wr => ∃ k : Nat, k ≤ m ∧ iv = .int .i64 k ∧ Hid (∀ j (hj : j < ps.length), j < k → ps[j] ≠ v) ∧ IsX w wr) (fun iv _ => m - (intOf iv).toNat)
  case atStart => exact ⟨0, Nat.zero_le _, rfl, hide (fun j hj h => by omega), IsX.refl _⟩
  case round =>
    obtain ⟨k, hk, rfl, HNE, p, rfl⟩ := hrel
    by_cases hlt : k < m
    · have hltx : k < ps.length := HM.out ▸ hlt
      obtain ⟨b, off, rfl, hb, c0⟩ := int_rd HA.out (show ps[k]? = some ps[k] from List.getElem?_eq_getElem _)
      cases hq : (ps[k] == v)
      · have HNE' := hide (show ∀ j (hj : j < ps.length), j < k + 1 → ps[j] ≠ v from fun j hj h => by
          by_cases e : j = k
          · subst e; simpa using hq
          · exact HNE.out j hj (by omega))
        go_wp2
        go_roundw
        case rel => exact ⟨k + 1, by omega, by go_num, HNE', ⟨p, rfl⟩⟩
        case measure => simp [intOf]; omega
      · have HD := hide (dec_mem_yes hltx (by simpa using hq))
        go_wp2
        go_ret
        exact ⟨by rw [HD.out]; rfl, ⟨p, rfl⟩⟩
    · obtain rfl : k = m := by omega
      have HD := hide (dec_mem_no (fun j hj => HNE.out j hj (by have := HM.out; omega)))
      go_wp2
      go_ret
      exact ⟨by rw [HD.out]; rfl, ⟨p, rfl⟩⟩
end Go.Proofs.Ytdedaoafihomoaa
