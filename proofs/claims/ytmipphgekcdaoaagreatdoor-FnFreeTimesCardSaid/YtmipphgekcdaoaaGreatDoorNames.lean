/- Names and bounds: what IsName, within and their twins in the reference compute. Conditions: a string is no longer than 2^63 - 1 bytes. -/
import Derived.Test.YtmipphgekcdaoaaGreatDoorProg
import Derived.Test.YtmipphgekcdaoaaGreatDoorBase
import Derived.Lib.Strings
namespace Go.Proofs.YtmipphgekcdaoaaGreatDoor
set_option linter.unusedVariables false
open Go.RowKit

theorem str_list (s : ByteArray) : s.toList = s.data.toList := Lib.toList_data s
theorem str_empty {s : ByteArray} (h : s.size < 1) : s.toList.isEmpty = true := by
  have h1 : s.data.toList.length = s.size := by simp
  rw [str_list, List.isEmpty_iff]
  exact List.eq_nil_of_length_eq_zero (by omega)
theorem str_full {s : ByteArray} (h : 0 < s.size) : s.toList.isEmpty = false := by
  rw [str_list, ← Bool.not_eq_true, List.isEmpty_iff]; intro e
  have h1 : s.data.toList.length = s.size := by simp
  rw [e] at h1
  simp at h1; omega
def inB (n low high : Int) : Bool := decide (low ≤ n) && decide (n ≤ high)
theorem inB_true {n low high : Int} : inB n low high = true ↔ low ≤ n ∧ n ≤ high := by simp [inB]
theorem inB_false {n low high : Int} : inB n low high = false ↔ n < low ∨ high < n := by
  simp only [inB, Bool.and_eq_false_iff, decide_eq_false_iff_not]; omega
def smallB (c : UInt8) : Bool := decide (97 ≤ (c.toNat : Int)) && decide ((c.toNat : Int) ≤ 122)
def digitB (c : UInt8) : Bool := decide (48 ≤ (c.toNat : Int)) && decide ((c.toNat : Int) ≤ 57)
def signB (c : UInt8) : Bool := smallB c || digitB c
def nameL (l : List UInt8) : Bool := decide (1 ≤ l.length) && decide (l.length ≤ 10) && smallB (l.getD 0 0) && l.all signB
def nameB (s : ByteArray) : Bool := nameL s.data.toList

theorem name_of {s : ByteArray} (h1 : 1 ≤ s.size) (h2 : s.size ≤ 10) (h3 : smallB s[0] = true) (h4 : ∀ k (h : k < s.size), signB s[k] = true) : nameB s = true := by
  have h0 : s.data.toList.getD 0 0 = s[0] := by
    rw [List.getD_eq_getElem?_getD, List.getElem?_eq_getElem (by simp; omega)]; rfl
  simp only [nameB, nameL, Bool.and_eq_true, decide_eq_true_eq, h0, h3, List.all_eq_true]
  refine ⟨⟨⟨by simpa using h1, by simpa using h2⟩, trivial⟩, fun c hc => ?_⟩
  obtain ⟨k, hk, rfl⟩ := List.getElem_of_mem hc
  exact h4 k (by simpa using hk)
theorem name_not_len {s : ByteArray} (h : s.size < 1 ∨ 10 < s.size) : nameB s = false := by
  have : s.data.toList.length = s.size := by simp
  simp only [nameB, nameL, this]
  rcases h with h | h
  · rw [decide_eq_false (by omega : ¬ 1 ≤ s.size)]; simp
  · rw [decide_eq_false (by omega : ¬ s.size ≤ 10)]; simp
theorem name_not_head {s : ByteArray} (h1 : 1 ≤ s.size) (h : smallB s[0] = false) : nameB s = false := by
  have h0 : s.data.toList.getD 0 0 = s[0] := by
    rw [List.getD_eq_getElem?_getD, List.getElem?_eq_getElem (by simp; omega)]; rfl
  simp only [nameB, nameL, h0, h, Bool.and_false, Bool.false_and]
theorem name_not_at {s : ByteArray} {k : Nat} (hk : k < s.size) (h : signB s[k] = false) : nameB s = false := by
  have : s.data.toList.all signB = false := by
    rw [List.all_eq_false]
    exact ⟨s[k], by exact List.mem_of_getElem? (List.getElem?_eq_getElem (by simpa using hk)), by rw [h]; simp⟩
  simp only [nameB, nameL, this, Bool.and_false]
theorem sign_true {c : UInt8} (h : signB c = true) : (97 ≤ (c.toNat : Int) ∧ (c.toNat : Int) ≤ 122) ∨ (48 ≤ (c.toNat : Int) ∧ (c.toNat : Int) ≤ 57) := by
  simpa [signB, smallB, digitB] using h
theorem sign_false {c : UInt8} (h : signB c = false) : 122 < (c.toNat : Int) ∨ (57 < (c.toNat : Int) ∧ (c.toNat : Int) < 97) ∨ (c.toNat : Int) < 48 := by
  simp [signB, smallB, digitB] at h; omega
theorem name_step {s : ByteArray} {k : Nat} (hk : k < s.size) (h : ∀ j (h : j < s.size), j < k → signB s[j] = true) (hs : signB s[k] = true) : ∀ j (h : j < s.size), j < k + 1 → signB s[j] = true := by
  intro j hj hjk
  by_cases e : j = k
  · subst e; exact hs
  · exact h j hj (by omega)
theorem name_size {s : ByteArray} (h : nameB s = true) : 1 ≤ s.size ∧ s.size ≤ 10 := by
  simp only [nameB, nameL, Bool.and_eq_true, decide_eq_true_eq] at h
  have : s.data.toList.length = s.size := by simp
  omega

theorem c_within (n low high : Int) (w : World) : Calls Tryz.prog 38 #[.int .i64 n, .int .i64 low, .int .i64 high] w fun e w' => e = .returned (.bool (inB n low high)) ∧ w = w' := by
  by_cases h1 : low ≤ n
  · by_cases h2 : n ≤ high
    all_goals
      go_enter Tryz.func38, Tryz.ntmps38
      go_wp2
      go_ret
      exact ⟨congrArg (fun b => Ending.returned (.bool b)) (by simp [inB]; omega), rfl⟩
  · go_enter Tryz.func38, Tryz.ntmps38
    go_wp2
    go_ret
    exact ⟨congrArg (fun b => Ending.returned (.bool b)) (by simp [inB]; omega), rfl⟩

theorem c_in (n low high : Int) (w : World) : Calls Tryz.prog 63 #[.int .i64 n, .int .i64 low, .int .i64 high] w fun e w' => e = .returned (.bool (inB n low high)) ∧ w = w' := by
  by_cases h1 : low ≤ n
  · by_cases h2 : n ≤ high
    all_goals
      go_enter Tryz.func63, Tryz.ntmps63
      go_wp2
      go_ret
      exact ⟨congrArg (fun b => Ending.returned (.bool b)) (by simp [inB]; omega), rfl⟩
  · go_enter Tryz.func63, Tryz.ntmps63
    go_wp2
    go_ret
    exact ⟨congrArg (fun b => Ending.returned (.bool b)) (by simp [inB]; omega), rfl⟩

theorem c_small (x : UInt8) (w : World) : Calls Tryz.prog 76 #[.int .u8 (x.toNat : Int)] w fun e w' => e = .returned (.bool (smallB x)) ∧ w = w' := by
  by_cases h1 : 97 ≤ (x.toNat : Int)
  · by_cases h2 : (x.toNat : Int) ≤ 122
    all_goals
      go_enter Tryz.func76, Tryz.ntmps76
      go_wp2
      go_ret
      exact ⟨congrArg (fun b => Ending.returned (.bool b)) (by simp [smallB]; omega), rfl⟩
  · go_enter Tryz.func76, Tryz.ntmps76
    go_wp2
    go_ret
    exact ⟨congrArg (fun b => Ending.returned (.bool b)) (by simp [smallB]; omega), rfl⟩

theorem c_digit (x : UInt8) (w : World) : Calls Tryz.prog 77 #[.int .u8 (x.toNat : Int)] w fun e w' => e = .returned (.bool (digitB x)) ∧ w = w' := by
  by_cases h1 : 48 ≤ (x.toNat : Int)
  · by_cases h2 : (x.toNat : Int) ≤ 57
    all_goals
      go_enter Tryz.func77, Tryz.ntmps77
      go_wp2
      go_ret
      exact ⟨congrArg (fun b => Ending.returned (.bool b)) (by simp [digitB]; omega), rfl⟩
  · go_enter Tryz.func77, Tryz.ntmps77
    go_wp2
    go_ret
    exact ⟨congrArg (fun b => Ending.returned (.bool b)) (by simp [digitB]; omega), rfl⟩

theorem c_IsName (s : ByteArray) (w : World) (hs : s.size ≤ maxLen) : Calls Tryz.prog 43 #[.string s] w fun e w' => e = .returned (.bool (nameB s)) ∧ w = w' := by
  unfold maxLen at hs
  by_cases h1 : s.size < 1
  · have HR := hide (name_not_len (s := s) (.inl h1))
    go_enter Tryz.func43, Tryz.ntmps43
    go_wp2
    go_ret
    exact ⟨by rw [HR.out]; rfl, rfl⟩
  by_cases h2 : 10 < s.size
  · have HR := hide (name_not_len (s := s) (.inr h2))
    go_enter Tryz.func43, Tryz.ntmps43
    go_wp2
    go_ret
    exact ⟨by rw [HR.out]; rfl, rfl⟩
  have h0 : 0 < s.size := by omega
  by_cases h3 : (s[0].toNat : Int) < 97
  · have HR := hide (name_not_head (s := s) (by omega) (by simp [smallB]; omega))
    go_enter Tryz.func43, Tryz.ntmps43
    go_wp2
    go_ret
    exact ⟨by rw [HR.out]; rfl, rfl⟩
  by_cases h4 : 122 < (s[0].toNat : Int)
  · have HR := hide (name_not_head (s := s) (by omega) (by simp [smallB]; omega))
    go_enter Tryz.func43, Tryz.ntmps43
    go_wp2
    go_ret
    exact ⟨by rw [HR.out]; rfl, rfl⟩
  have HS := hide (show smallB s[0] = true by simp [smallB]; omega)
  go_enter Tryz.func43, Tryz.ntmps43
  go_wp2
  go_loop [3] (fun i => ∃ k : Nat, k ≤ s.size ∧ i = .int .i64 k ∧ ∀ j (h : j < s.size), j < k → signB s[j] = true) (fun i => s.size - (intOf i).toNat)
  case atStart => exact ⟨0, Nat.zero_le _, rfl, fun j h hj => absurd hj (by omega)⟩
  case round =>
    obtain ⟨k, hk, rfl, hall⟩ := hrel
    have HA := hide hall
    clear hall
    by_cases hlt : k < s.size
    · cases hsg : signB s[k]
      · have HR := hide (name_not_at (s := s) hlt hsg)
        have hd := sign_false hsg
        clear hsg
        rcases hd with hd | ⟨hd, hd'⟩ | hd
        all_goals
          go_wp2
          all_goals first
            | (go_ret; exact ⟨by rw [HR.out]; rfl, rfl⟩)
            | (exfalso; rename_i hx; simp at hx; omega)
      · have HR := hide hsg
        have hd := sign_true hsg
        clear hsg
        rcases hd with ⟨hd, hd'⟩ | ⟨hd, hd'⟩
        all_goals
          go_wp2
          go_round
          case rel => exact ⟨k + 1, by omega, by go_num, name_step hlt HA.out HR.out⟩
          case measure => simp [intOf]; omega
    · have HR := hide (name_of (s := s) (by omega) (by omega) HS.out (fun j h => HA.out j h (by omega)))
      go_wp2
      go_ret
      exact ⟨by rw [HR.out]; rfl, rfl⟩

theorem c_name (s : ByteArray) (w : World) (hs : s.size ≤ maxLen) : Calls Tryz.prog 62 #[.string s] w fun e w' => e = .returned (.bool (nameB s)) ∧ w = w' := by
  unfold maxLen at hs
  by_cases h1 : s.size < 1
  · have HR := hide (name_not_len (s := s) (.inl h1))
    have he := str_empty h1
    go_enter Tryz.func62, Tryz.ntmps62
    go_wp2
    go_ret
    exact ⟨by rw [HR.out]; rfl, rfl⟩
  have he := str_full (s := s) (by omega)
  by_cases h2 : 10 < s.size
  · have HR := hide (name_not_len (s := s) (.inr h2))
    go_enter Tryz.func62, Tryz.ntmps62
    go_wp2
    go_ret
    exact ⟨by rw [HR.out]; rfl, rfl⟩
  have h0 : 0 < s.size := by omega
  cases h3 : smallB s[0]
  · have HR := hide (name_not_head (s := s) (by omega) h3)
    go_enter Tryz.func62, Tryz.ntmps62
    go_wp2_with (go_at_call 76; refine (c_small _ _).mono ?_; rintro e w' ⟨rfl, rfl⟩)
    go_ret
    exact ⟨by rw [HR.out]; rfl, rfl⟩
  have HS := hide h3
  go_enter Tryz.func62, Tryz.ntmps62
  go_wp2_with (go_at_call 76; refine (c_small _ _).mono ?_; rintro e w' ⟨rfl, rfl⟩)
  clear h3
  go_loop [3] (fun i => ∃ k : Nat, k ≤ s.size ∧ i = .int .i64 k ∧ ∀ j (h : j < s.size), j < k → signB s[j] = true) (fun i => s.size - (intOf i).toNat)
  case atStart => exact ⟨0, Nat.zero_le _, rfl, fun j h hj => absurd hj (by omega)⟩
  case round =>
    obtain ⟨k, hk, rfl, hall⟩ := hrel
    have HA := hide hall
    clear hall
    by_cases hlt : k < s.size
    · cases ha : smallB s[k]
      · cases hb : digitB s[k]
        · have HR := hide (name_not_at (s := s) hlt (by simp [signB, ha, hb]))
          go_wp2_with (first | (go_at_call 76; refine (c_small _ _).mono ?_; rintro e w' ⟨rfl, rfl⟩) | (go_at_call 77; refine (c_digit _ _).mono ?_; rintro e w' ⟨rfl, rfl⟩))
          go_ret
          exact ⟨by rw [HR.out]; rfl, rfl⟩
        · have HR := hide (show signB s[k] = true by simp [signB, hb])
          go_wp2_with (first | (go_at_call 76; refine (c_small _ _).mono ?_; rintro e w' ⟨rfl, rfl⟩) | (go_at_call 77; refine (c_digit _ _).mono ?_; rintro e w' ⟨rfl, rfl⟩))
          go_round
          case rel => exact ⟨k + 1, by omega, by go_num, name_step hlt HA.out HR.out⟩
          case measure => simp [intOf]; omega
      · have HR := hide (show signB s[k] = true by simp [signB, ha])
        go_wp2_with (first | (go_at_call 76; refine (c_small _ _).mono ?_; rintro e w' ⟨rfl, rfl⟩) | (go_at_call 77; refine (c_digit _ _).mono ?_; rintro e w' ⟨rfl, rfl⟩))
        go_round
        case rel => exact ⟨k + 1, by omega, by go_num, name_step hlt HA.out HR.out⟩
        case measure => simp [intOf]; omega
    · have HR := hide (name_of (s := s) (by omega) (by omega) HS.out (fun j h => HA.out j h (by omega)))
      go_wp2
      go_ret
      exact ⟨by rw [HR.out]; rfl, rfl⟩

end Go.Proofs.YtmipphgekcdaoaaGreatDoor
