/- Names and bounds: what IsName, within and their twins in the reference compute. Conditions: a string is no longer than 2^63 - 1 bytes. -/
import Derived.Test.YtadmpefbpklibaaProg
import Derived.Test.YtadmpefbpklibaaBase
import Derived.Lib.Strings
namespace Go.Proofs.Ytadmpefbpklibaa
set_option linter.unusedVariables false
open Go.RowKit

theorem str_list (s : ByteArray) : s.toList = s.data.toList := Lib.toList_data s
theorem str_empty {s : ByteArray} (h : s.size < 1) : s.toList.isEmpty = true := by
  have h1 : s.data.toList.length = s.size := by simp
  rw [str_list, List.isEmpty_iff]
  exact List.eq_nil_of_length_eq_zero (by omega)
theorem str_full {s : ByteArray} (h : 0 < s.size) : s.toList.isEmpty = false := by
  rw [str_list, ← Bool.not_eq_true, List.isEmpty_iff]; intro e
  have h1 : s.data.toList.length = s.size := by simp
  rw [e] at h1
  simp at h1; omega
def inB (n low high : Int) : Bool := decide (low ≤ n) && decide (n ≤ high)
theorem inB_true {n low high : Int} : inB n low high = true ↔ low ≤ n ∧ n ≤ high := by simp [inB]
theorem inB_false {n low high : Int} : inB n low high = false ↔ n < low ∨ high < n := by
  simp only [inB, Bool.and_eq_false_iff, decide_eq_false_iff_not]; omega
def smallB (c : UInt8) : Bool := decide (97 ≤ (c.toNat : Int)) && decide ((c.toNat : Int) ≤ 122)
def digitB (c : UInt8) : Bool := decide (48 ≤ (c.toNat : Int)) && decide ((c.toNat : Int) ≤ 57)
def signB (c : UInt8) : Bool := smallB c || digitB c
def nameL (l : List UInt8) : Bool := decide (1 ≤ l.length) && decide (l.length ≤ 10) && smallB (l.getD 0 0) && l.all signB
def nameB (s : ByteArray) : Bool := nameL s.data.toList

theorem name_of {s : ByteArray} (h1 : 1 ≤ s.size) (h2 : s.size ≤ 10) (h3 : smallB s[0] = true) (h4 : ∀ k (h : k < s.size), signB s[k] = true) : nameB s = true := by
  have h0 : s.data.toList.getD 0 0 = s[0] := by
    rw [List.getD_eq_getElem?_getD, List.getElem?_eq_getElem (by simp; omega)]; rfl
  simp only [nameB, nameL, Bool.and_eq_true, decide_eq_true_eq, h0, h3, List.all_eq_true]
  refine ⟨⟨⟨by simpa using h1, by simpa using h2⟩, trivial⟩, fun c hc => ?_⟩
  obtain ⟨k, hk, rfl⟩ := List.getElem_of_mem hc
  exact h4 k (by simpa using hk)
theorem name_not_len {s : ByteArray} (h : s.size < 1 ∨ 10 < s.size) : nameB s = false := by
  have : s.data.toList.length = s.size := by simp
  simp only [nameB, nameL, this]
  rcases h with h | h
  · rw [decide_eq_false (by omega : ¬ 1 ≤ s.size)]; simp
  · rw [decide_eq_false (by omega : ¬ s.size ≤ 10)]; simp
theorem name_not_head {s : ByteArray} (h1 : 1 ≤ s.size) (h : smallB s[0] = false) : nameB s = false := by
  have h0 : s.data.toList.getD 0 0 = s[0] := by
    rw [List.getD_eq_getElem?_getD, List.getElem?_eq_getElem (by simp; omega)]; rfl
  simp only [nameB, nameL, h0, h, Bool.and_false, Bool.false_and]
theorem name_not_at {s : ByteArray} {k : Nat} (hk : k < s.size) (h : signB s[k] = false) : nameB s = false := by
  have : s.data.toList.all signB = false := by
    rw [List.all_eq_false]
    exact ⟨s[k], by exact List.mem_of_getElem? (List.getElem?_eq_getElem (by simpa using hk)), by rw [h]; simp⟩
  simp only [nameB, nameL, this, Bool.and_false]
theorem sign_true {c : UInt8} (h : signB c = true) : (97 ≤ (c.toNat : Int) ∧ (c.toNat : Int) ≤ 122) ∨ (48 ≤ (c.toNat : Int) ∧ (c.toNat : Int) ≤ 57) := by
  simpa [signB, smallB, digitB] using h
theorem sign_false {c : UInt8} (h : signB c = false) : 122 < (c.toNat : Int) ∨ (57 < (c.toNat : Int) ∧ (c.toNat : Int) < 97) ∨ (c.toNat : Int) < 48 := by
  simp [signB, smallB, digitB] at h; omega
theorem name_step {s : ByteArray} {k : Nat} (hk : k < s.size) (h : ∀ j (h : j < s.size), j < k → signB s[j] = true) (hs : signB s[k] = true) : ∀ j (h : j < s.size), j < k + 1 → signB s[j] = true := by
  intro j hj hjk
  by_cases e : j = k
  · subst e; exact hs
  · exact h j hj (by omega)
theorem name_size {s : ByteArray} (h : nameB s = true) : 1 ≤ s.size ∧ s.size ≤ 10 := by
  simp only [nameB, nameL, Bool.and_eq_true, decide_eq_true_eq] at h
  have : s.data.toList.length = s.size := by simp
  omega

theorem c_within (n low high : Int) (w : World) : Calls Try.prog 36 #[.int .i64 n, .int .i64 low, .int .i64 high] w fun e w' => e = .returned (.bool (inB n low high)) ∧ w = w' := by
  by_cases h1 : low ≤ n
  · by_cases h2 : n ≤ high
    all_goals
      go_enter Try.func36, Try.ntmps36
      go_wp2
      go_ret
      exact ⟨congrArg (fun b => Ending.returned (.bool b)) (by simp [inB]; omega), rfl⟩
  · go_enter Try.func36, Try.ntmps36
    go_wp2
    go_ret
    exact ⟨congrArg (fun b => Ending.returned (.bool b)) (by simp [inB]; omega), rfl⟩

theorem c_in (n low high : Int) (w : World) : Calls Try.prog 30 #[.int .i64 n, .int .i64 low, .int .i64 high] w fun e w' => e = .returned (.bool (inB n low high)) ∧ w = w' := by
  by_cases h1 : low ≤ n
  · by_cases h2 : n ≤ high
    all_goals
      go_enter Try.func30, Try.ntmps30
      go_wp2
      go_ret
      exact ⟨congrArg (fun b => Ending.returned (.bool b)) (by simp [inB]; omega), rfl⟩
  · go_enter Try.func30, Try.ntmps30
    go_wp2
    go_ret
    exact ⟨congrArg (fun b => Ending.returned (.bool b)) (by simp [inB]; omega), rfl⟩

theorem c_angle (n : Int) (w : World) : Calls Try.prog 67 #[.int .i64 n] w fun e w' => e = .returned (.bool (inB n 0 359999)) ∧ w = w' := by
  go_enter Try.func67, Try.ntmps67
  go_wp2_with (go_at_call 30; refine (c_in _ _ _ _).mono ?_; rintro e w' ⟨rfl, rfl⟩)
  go_ret
  exact ⟨rfl, rfl⟩

end Go.Proofs.Ytadmpefbpklibaa
