/- Cues: what the validity tests compute. Conditions: strings no longer than 2^63 - 1 bytes, lists no longer than 2^40. -/
import Derived.Test.YtegehdhdlljikaaFlatCue
import Derived.Test.YtegehdhdlljikaaNames
import Derived.Test.YtegehdhdlljikaaLists
import Derived.Deep.RegionHeld3
namespace Go.Proofs.Ytegehdhdlljikaa
set_option linter.unusedVariables false
open Go.RowKit

def CueD.actB (x : CueD) : Bool := if x.Action == 1 then x.Length == 0 else if x.Action == 2 then inB x.Length 1 (7200000 - x.Time) else if x.Action == 3 then (x.Length == 0 && x.Val == 0) else false
def CueD.okB (x : CueD) : Bool := nameB x.Id && nameB x.Target && inB x.Time 0 7200000 && inB x.Val 0 1000 && x.actB
def cueLt (x y : CueD) : Bool := decide (x.Time < y.Time) || (x.Time == y.Time && Op.bytesLess x.Id.toList y.Id.toList)
def CueD.geB (x y : CueD) : Bool := !cueLt x y
def pCue (id : ByteArray) (x : CueD) : Bool := x.Id.toList == id.toList
def cueI (id : ByteArray) (xs : List CueD) : Int := idxI (pCue id) xs
def dupAt (xs : List CueD) (i : Nat) : Bool := match xs[i]? with | some x => (xs.take i).any (pCue x.Id) | none => false
def cueListB (xs : List CueD) : Bool := decide (xs.length ≤ 32) && allGood CueD.okB CueD.geB xs && (List.range xs.length).all (fun i => !dupAt xs i)
section
variable {xs : List CueD}
theorem cues_bad_ok {i : Nat} {h : i < xs.length} (ho : xs[i].okB = false) : cueListB xs = false := by simp [cueListB, bad_ok (ge := CueD.geB) ho]
theorem cues_bad_lt {i : Nat} {h : i + 1 < xs.length} (hg : cueLt (xs[i]'(by omega)) xs[i + 1] = false) : cueListB xs = false := by simp [cueListB, bad_ge (ok := CueD.okB) (ge := CueD.geB) (i := i) (h := h) (by simp [CueD.geB, hg])]
theorem cues_bad_dup {i : Nat} (h : i < xs.length) (hd : dupAt xs i = true) : cueListB xs = false := by
  have : (List.range xs.length).all (fun i => !dupAt xs i) = false := by
    rw [List.all_eq_false]; exact ⟨i, List.mem_range.2 h, by simp [hd]⟩
  simp [cueListB, this]
theorem cues_bad_len (h : 32 < xs.length) : cueListB xs = false := by rw [cueListB, decide_eq_false (by omega)]; rfl
theorem cues_good (hl : xs.length ≤ 32) (hg : ∀ i, i < xs.length → goodAt CueD.okB CueD.geB xs i = true) (hd : ∀ i, i < xs.length → dupAt xs i = false) : cueListB xs = true := by
  have h2 : (List.range xs.length).all (fun i => !dupAt xs i) = true := by
    rw [List.all_eq_true]; intro i hi; simp [hd i (List.mem_range.1 hi)]
  simp [cueListB, hl, all_good hg, h2]
theorem cues_len (h : cueListB xs = true) : xs.length ≤ 32 := by simp only [cueListB, Bool.and_eq_true, decide_eq_true_eq] at h; exact h.1.1
theorem dup_step {k : Nat} (h : ∀ i, i < k → dupAt xs i = false) (hk : dupAt xs k = false) : ∀ i, i < k + 1 → dupAt xs i = false := fun i hi => by
  by_cases e : i = k
  · subst e; exact hk
  · exact h i (by omega)
theorem dup_zero : dupAt xs 0 = false := by unfold dupAt; cases xs[0]? <;> simp
theorem dup_eq {k : Nat} (h : k < xs.length) : dupAt xs k = (xs.take k).any (pCue xs[k].Id) := by unfold dupAt; rw [List.getElem?_eq_getElem h]
theorem cueI_take {id : ByteArray} {k : Nat} : decide (0 ≤ cueI id (xs.take k)) = (xs.take k).any (pCue id) := (idxI_ge _ _).2.2
theorem cueI_lt {k : Nat} (h : k < xs.length) : decide (cueI xs[k].Id xs < (k : Int)) = dupAt xs k := by
  rw [dup_eq h]
  have hk : pCue xs[k].Id xs[k] = true := by simp [pCue]
  unfold cueI idxI
  cases hf : xs.findIdx? (pCue xs[k].Id) with
  | none =>
    rw [List.findIdx?_eq_none_iff] at hf
    have := hf _ (List.getElem_mem h)
    rw [hk] at this; cases this
  | some j =>
    rw [List.findIdx?_eq_some_iff_getElem] at hf
    obtain ⟨hj, hp, hb⟩ := hf
    cases ha : (xs.take k).any (pCue xs[k].Id) with
    | true =>
      rw [List.any_eq_true] at ha
      obtain ⟨x, hx, hpx⟩ := ha
      obtain ⟨i, hi, rfl⟩ := List.getElem_of_mem hx
      rw [List.length_take] at hi
      rw [List.getElem_take] at hpx
      have hji : j ≤ i := by
        refine Nat.le_of_not_lt (fun hij => ?_)
        have := hb i hij
        rw [hpx] at this; simp at this
      exact decide_eq_true (by show (j : Int) < (k : Int); omega)
    | false =>
      refine decide_eq_false (fun hlt => ?_)
      have hlt' : j < k := by have h2 : (j : Int) < (k : Int) := hlt; omega
      rw [List.any_eq_false] at ha
      exact ha xs[j] (by rw [List.mem_take_iff_getElem]; exact ⟨j, by omega, rfl⟩) hp
end

theorem c_l13Time (d : Int) (w : World) : Calls Try.prog 75 #[.int .i64 d] w fun e w' => e = .returned (.bool (inB d 0 7200000)) ∧ w = w' := by
  go_enter Try.func75, Try.ntmps75
  go_wp2_with fail
  refine (c_in d 0 7200000 w).mono ?_
  rintro e w1 ⟨rfl, rfl⟩
  go_wp2_with fail
  go_ret
  exact ⟨rfl, rfl⟩

set_option maxHeartbeats 1600000 in
theorem c_l13One (x : CueD) (b off : Nat) (w : World) (hs0 : x.Id.size ≤ maxLen) (hs1 : x.Target.size ≤ maxLen) (hb : b < w.heap.size) (c0 : w.cell? ⟨b, off, none⟩ = some (.string x.Id)) (c1 : w.cell? ⟨b, off + 1, none⟩ = some (.int .i64 x.Time)) (c2 : w.cell? ⟨b, off + 2, none⟩ = some (.int .i64 x.Length)) (c3 : w.cell? ⟨b, off + 3, none⟩ = some (.string x.Target)) (c4 : w.cell? ⟨b, off + 4, none⟩ = some (.int .i64 x.Action)) (c5 : w.cell? ⟨b, off + 5, none⟩ = some (.int .i64 x.Val)) :
    Calls Try.prog 59 #[.pointer (some ⟨b, off, none⟩)] w fun e w' => e = .returned (.bool x.okB) ∧ IsX w w' := by
  cases h0 : nameB x.Id
  · have HR := hide (show x.okB = false by simp only [CueD.okB, CueD.actB, Bool.true_and, Bool.and_true, Bool.false_and, Bool.and_false, if_true, if_false, Bool.false_eq_true, h0])
    go_enter Try.func59, Try.ntmps59
    go_wp2_with (first | (go_at_call 74; (with_reducible refine (c_name x.Id _ hs0).mono ?_); rintro e w' ⟨rfl, rfl⟩) | (go_at_call 74; (with_reducible refine (c_name x.Target _ hs1).mono ?_); rintro e w' ⟨rfl, rfl⟩) | (go_at_call 75; refine (c_l13Time _ _).mono ?_; rintro e w' ⟨rfl, rfl⟩) | (go_at_call 76; refine (c_in _ _ _ _).mono ?_; rintro e w' ⟨rfl, rfl⟩))
    go_ret
    exact ⟨by rw [HR.out]; first | rfl | exact congrArg (fun b => Ending.returned (Value.bool b)) (by simp; omega), (IsX.refl _)⟩
  cases h1 : nameB x.Target
  · have HR := hide (show x.okB = false by simp only [CueD.okB, CueD.actB, Bool.true_and, Bool.and_true, Bool.false_and, Bool.and_false, if_true, if_false, Bool.false_eq_true, h0, h1])
    go_enter Try.func59, Try.ntmps59
    go_wp2_with (first | (go_at_call 74; (with_reducible refine (c_name x.Id _ hs0).mono ?_); rintro e w' ⟨rfl, rfl⟩) | (go_at_call 74; (with_reducible refine (c_name x.Target _ hs1).mono ?_); rintro e w' ⟨rfl, rfl⟩) | (go_at_call 75; refine (c_l13Time _ _).mono ?_; rintro e w' ⟨rfl, rfl⟩) | (go_at_call 76; refine (c_in _ _ _ _).mono ?_; rintro e w' ⟨rfl, rfl⟩))
    go_ret
    exact ⟨by rw [HR.out]; first | rfl | exact congrArg (fun b => Ending.returned (Value.bool b)) (by simp; omega), (IsX.refl _)⟩
  cases h2 : inB x.Time 0 7200000
  · have HR := hide (show x.okB = false by simp only [CueD.okB, CueD.actB, Bool.true_and, Bool.and_true, Bool.false_and, Bool.and_false, if_true, if_false, Bool.false_eq_true, h0, h1, h2])
    go_enter Try.func59, Try.ntmps59
    go_wp2_with (first | (go_at_call 74; (with_reducible refine (c_name x.Id _ hs0).mono ?_); rintro e w' ⟨rfl, rfl⟩) | (go_at_call 74; (with_reducible refine (c_name x.Target _ hs1).mono ?_); rintro e w' ⟨rfl, rfl⟩) | (go_at_call 75; refine (c_l13Time _ _).mono ?_; rintro e w' ⟨rfl, rfl⟩) | (go_at_call 76; refine (c_in _ _ _ _).mono ?_; rintro e w' ⟨rfl, rfl⟩))
    go_ret
    exact ⟨by rw [HR.out]; first | rfl | exact congrArg (fun b => Ending.returned (Value.bool b)) (by simp; omega), (IsX.refl _)⟩
  have bt := inB_true.1 h2
  obtain ⟨bt0, bt1⟩ := bt
  cases h3 : inB x.Val 0 1000
  · have HR := hide (show x.okB = false by simp only [CueD.okB, CueD.actB, Bool.true_and, Bool.and_true, Bool.false_and, Bool.and_false, if_true, if_false, Bool.false_eq_true, h0, h1, h2, h3])
    go_enter Try.func59, Try.ntmps59
    go_wp2_with (first | (go_at_call 74; (with_reducible refine (c_name x.Id _ hs0).mono ?_); rintro e w' ⟨rfl, rfl⟩) | (go_at_call 74; (with_reducible refine (c_name x.Target _ hs1).mono ?_); rintro e w' ⟨rfl, rfl⟩) | (go_at_call 75; refine (c_l13Time _ _).mono ?_; rintro e w' ⟨rfl, rfl⟩) | (go_at_call 76; refine (c_in _ _ _ _).mono ?_; rintro e w' ⟨rfl, rfl⟩))
    go_ret
    exact ⟨by rw [HR.out]; first | rfl | exact congrArg (fun b => Ending.returned (Value.bool b)) (by simp; omega), (IsX.refl _)⟩
  cases a1 : (x.Action == 1)
  rotate_left
  · have e1 := eq_of_beq a1
    have HR := hide (show x.okB = (x.Length == 0) by simp only [CueD.okB, CueD.actB, Bool.true_and, Bool.and_true, Bool.false_and, Bool.and_false, if_true, if_false, Bool.false_eq_true, h0, h1, h2, h3, a1])
    go_enter Try.func59, Try.ntmps59
    go_wp2_with (first | (go_at_call 74; (with_reducible refine (c_name x.Id _ hs0).mono ?_); rintro e w' ⟨rfl, rfl⟩) | (go_at_call 74; (with_reducible refine (c_name x.Target _ hs1).mono ?_); rintro e w' ⟨rfl, rfl⟩) | (go_at_call 75; refine (c_l13Time _ _).mono ?_; rintro e w' ⟨rfl, rfl⟩) | (go_at_call 76; refine (c_in _ _ _ _).mono ?_; rintro e w' ⟨rfl, rfl⟩))
    go_ret
    exact ⟨by rw [HR.out]; first | rfl | exact congrArg (fun b => Ending.returned (Value.bool b)) (by simp; omega), (IsX.refl _)⟩
  have n1 : ¬ x.Action = 1 := by simpa using a1
  cases a2 : (x.Action == 2)
  rotate_left
  · skip
    have HR := hide (show x.okB = (inB x.Length 1 (7200000 - x.Time)) by simp only [CueD.okB, CueD.actB, Bool.true_and, Bool.and_true, Bool.false_and, Bool.and_false, if_true, if_false, Bool.false_eq_true, h0, h1, h2, h3, a1, a2])
    go_enter Try.func59, Try.ntmps59
    go_wp2_with (first | (go_at_call 74; (with_reducible refine (c_name x.Id _ hs0).mono ?_); rintro e w' ⟨rfl, rfl⟩) | (go_at_call 74; (with_reducible refine (c_name x.Target _ hs1).mono ?_); rintro e w' ⟨rfl, rfl⟩) | (go_at_call 75; refine (c_l13Time _ _).mono ?_; rintro e w' ⟨rfl, rfl⟩) | (go_at_call 76; refine (c_in _ _ _ _).mono ?_; rintro e w' ⟨rfl, rfl⟩))
    refine wp_region_x (by kernel_rfl) (by kernel_rfl) ?_
    repeat (go_big_quiet_step ((go_at_call 76; exact call_q (c_in _ _ _ _))))
    refine wpQuiet_nil ?_
    rintro _ ⟨q, rfl⟩
    go_wp2
    go_ret
    exact ⟨by rw [HR.out]; first | rfl | exact congrArg (fun b => Ending.returned (Value.bool b)) (by simp; omega), ⟨q, rfl⟩⟩
  cases a3 : (x.Action == 3)
  · skip
    have HR := hide (show x.okB = false by simp only [CueD.okB, CueD.actB, Bool.true_and, Bool.and_true, Bool.false_and, Bool.and_false, if_true, if_false, Bool.false_eq_true, h0, h1, h2, h3, a1, a2, a3])
    go_enter Try.func59, Try.ntmps59
    go_wp2_with (first | (go_at_call 74; (with_reducible refine (c_name x.Id _ hs0).mono ?_); rintro e w' ⟨rfl, rfl⟩) | (go_at_call 74; (with_reducible refine (c_name x.Target _ hs1).mono ?_); rintro e w' ⟨rfl, rfl⟩) | (go_at_call 75; refine (c_l13Time _ _).mono ?_; rintro e w' ⟨rfl, rfl⟩) | (go_at_call 76; refine (c_in _ _ _ _).mono ?_; rintro e w' ⟨rfl, rfl⟩))
    go_ret
    exact ⟨by rw [HR.out]; first | rfl | exact congrArg (fun b => Ending.returned (Value.bool b)) (by simp; omega), (IsX.refl _)⟩
  cases a4 : (x.Length == 0)
  · skip
    have HR := hide (show x.okB = false by simp only [CueD.okB, CueD.actB, Bool.true_and, Bool.and_true, Bool.false_and, Bool.and_false, if_true, if_false, Bool.false_eq_true, h0, h1, h2, h3, a1, a2, a3, a4])
    go_enter Try.func59, Try.ntmps59
    go_wp2_with (first | (go_at_call 74; (with_reducible refine (c_name x.Id _ hs0).mono ?_); rintro e w' ⟨rfl, rfl⟩) | (go_at_call 74; (with_reducible refine (c_name x.Target _ hs1).mono ?_); rintro e w' ⟨rfl, rfl⟩) | (go_at_call 75; refine (c_l13Time _ _).mono ?_; rintro e w' ⟨rfl, rfl⟩) | (go_at_call 76; refine (c_in _ _ _ _).mono ?_; rintro e w' ⟨rfl, rfl⟩))
    go_ret
    exact ⟨by rw [HR.out]; first | rfl | exact congrArg (fun b => Ending.returned (Value.bool b)) (by simp; omega), (IsX.refl _)⟩
  have HR := hide (show x.okB = (x.Val == 0) by simp only [CueD.okB, CueD.actB, Bool.true_and, Bool.and_true, Bool.false_and, Bool.and_false, if_true, if_false, Bool.false_eq_true, h0, h1, h2, h3, a1, a2, a3, a4])
  go_enter Try.func59, Try.ntmps59
  go_wp2_with (first | (go_at_call 74; (with_reducible refine (c_name x.Id _ hs0).mono ?_); rintro e w' ⟨rfl, rfl⟩) | (go_at_call 74; (with_reducible refine (c_name x.Target _ hs1).mono ?_); rintro e w' ⟨rfl, rfl⟩) | (go_at_call 75; refine (c_l13Time _ _).mono ?_; rintro e w' ⟨rfl, rfl⟩) | (go_at_call 76; refine (c_in _ _ _ _).mono ?_; rintro e w' ⟨rfl, rfl⟩))
  go_ret
  exact ⟨by rw [HR.out]; first | rfl | exact congrArg (fun b => Ending.returned (Value.bool b)) (by simp; omega), (IsX.refl _)⟩

set_option maxHeartbeats 1600000 in
theorem c_l13Before (x y : CueD) (b off b' off' : Nat) (w : World) (hb : b < w.heap.size) (hb' : b' < w.heap.size) (c0 : w.cell? ⟨b, off, none⟩ = some (.string x.Id)) (c1 : w.cell? ⟨b, off + 1, none⟩ = some (.int .i64 x.Time)) (d0 : w.cell? ⟨b', off', none⟩ = some (.string y.Id)) (d1 : w.cell? ⟨b', off' + 1, none⟩ = some (.int .i64 y.Time)) :
    Calls Try.prog 73 #[.pointer (some ⟨b, off, none⟩), .pointer (some ⟨b', off', none⟩)] w fun e w' => e = .returned (.bool (cueLt x y)) ∧ IsX w w' := by
  by_cases h1 : x.Time < y.Time
  · have HR := hide (show cueLt x y = true by simp [cueLt, h1])
    go_enter Try.func73, Try.ntmps73
    go_wp2
    refine wp_region_x (by kernel_rfl) (by kernel_rfl) ?_
    repeat (go_big_quiet_step (fail))
    refine wpQuiet_nil ?_
    rintro _ ⟨q, rfl⟩
    go_wp2
    go_ret
    exact ⟨by rw [HR.out]; rfl, ⟨q, rfl⟩⟩
  have hd : decide (x.Time < y.Time) = false := decide_eq_false h1
  cases h2 : (x.Time == y.Time)
  · have HR := hide (show cueLt x y = false by simp [cueLt, h1, h2])
    go_enter Try.func73, Try.ntmps73
    go_wp2
    refine wp_region_x (by kernel_rfl) (by kernel_rfl) ?_
    repeat (go_big_quiet_step (fail))
    refine wpQuiet_nil ?_
    rintro _ ⟨q, rfl⟩
    go_wp2
    go_ret
    exact ⟨by rw [HR.out]; rfl, ⟨q, rfl⟩⟩
  · have HR := hide (show cueLt x y = Op.bytesLess x.Id.toList y.Id.toList by simp only [cueLt, decide_eq_false h1, h2, Bool.true_and, Bool.false_or])
    go_enter Try.func73, Try.ntmps73
    go_wp2
    refine wp_region_x (by kernel_rfl) (by kernel_rfl) ?_
    repeat (go_big_quiet_step (fail))
    refine wpQuiet_nil ?_
    rintro _ ⟨q, rfl⟩
    go_wp2
    go_ret
    exact ⟨by rw [HR.out]; rfl, ⟨q, rfl⟩⟩

set_option maxHeartbeats 800000 in
theorem c_l13Find (id : ByteArray) (A : Option Addr) (c : Nat) (xs : List CueD) (w : World) (hn : xs.length ≤ 1099511627776) (hA : Rd CueD.cells 6 w A xs) :
    Calls Try.prog 60 #[.slice A xs.length c, .string id] w fun e w' => e = .returned (.int .i64 (cueI id xs)) ∧ IsX w w' := by
  obtain ⟨n, hnn⟩ : ∃ n, n = xs.length := ⟨_, rfl⟩
  have HN := hide hnn
  rw [← hnn] at hn ⊢
  clear hnn
  go_enter Try.func60, Try.ntmps60
  go_wp2
  go_loopw [5] (fun i wr => ∃ k : Nat, k ≤ n ∧ i = .int .i64 k ∧ (∀ i (h : i < xs.length), i < k → pCue id xs[i] = false) ∧ IsX w wr) (fun i _ => n - (intOf i).toNat)
  case atStart => exact ⟨0, Nat.zero_le _, rfl, fun i h hi => absurd hi (by omega), IsX.refl _⟩
  case round =>
    obtain ⟨k, hk, rfl, hall, p, rfl⟩ := hrel
    have HA := hide hall
    clear hall
    by_cases hlt : k < n
    · have hltx : k < xs.length := HN.out ▸ hlt
      obtain ⟨b, off, rfl, hb, c0, c1, c2, c3, c4, c5⟩ := CueD.rd hA (show xs[k]? = some xs[k] from List.getElem?_eq_getElem _)
      clear hA
      cases hp : pCue id xs[k]
      · have HP := hide hp
        simp only [pCue] at hp
        go_wp2
        go_roundw
        case rel => exact ⟨k + 1, by omega, by go_num, step_all hltx HA.out HP.out, ⟨p, rfl⟩⟩
        case measure => simp [intOf]; omega
      · have HR := hide (show cueI id xs = (k : Int) from idxI_at hltx HA.out hp)
        simp only [pCue] at hp
        go_wp2
        go_ret
        exact ⟨by rw [HR.out]; rfl, ⟨p, rfl⟩⟩
    · have HR := hide (show cueI id xs = -1 from idxI_none (fun i h => HA.out i h (by have := HN.out; omega)))
      go_wp2
      go_ret
      exact ⟨by rw [HR.out]; rfl, ⟨p, rfl⟩⟩

set_option maxHeartbeats 400000 in
theorem c_cueClo (x : CueD) (id : ByteArray) (b : Nat) (w : World) (hb : b < w.heap.size) (l1 : w.cell? ⟨b, 0, none⟩ = some (.string id)) :
    Calls Try.prog 66 #[.agg #[.string x.Id, .int .i64 x.Time, .int .i64 x.Length, .string x.Target, .int .i64 x.Action, .int .i64 x.Val], .pointer (some ⟨b, 0, none⟩)] w fun e w' => e = .returned (.bool (pCue id x)) ∧ IsX w w' := by
  have HP := hide (show pCue id x = (x.Id.toList == id.toList) from rfl)
  go_enter Try.func66, Try.ntmps66
  go_wp2_with fail
  go_ret
  exact ⟨by rw [HP.out]; rfl, (IsX.refl w).alloc _⟩

set_option maxHeartbeats 800000 in
theorem c_IndexCue (id : ByteArray) (b1 : Nat) (A : Option Addr) (c : Nat) (xs : List CueD) (w : World) (hn : xs.length ≤ 1099511627776) (hA : Rd CueD.cells 6 w A xs) (hb1 : b1 < w.heap.size) (l1 : w.cell? ⟨b1, 0, none⟩ = some (.string id)) :
    Calls Try.prog 65 #[.slice A xs.length c, .func (.func 66) #[] #[.pointer (some ⟨b1, 0, none⟩)]] w fun e w' => e = .returned (.int .i64 (cueI id xs)) ∧ IsX w w' := by
  obtain ⟨n, hnn⟩ : ∃ n, n = xs.length := ⟨_, rfl⟩
  have HN := hide hnn
  have HC := hide (show ∀ x W, IsX w W → Calls Try.prog 66 #[.agg #[.string x.Id, .int .i64 x.Time, .int .i64 x.Length, .string x.Target, .int .i64 x.Action, .int .i64 x.Val], .pointer (some ⟨b1, 0, none⟩)] W fun e w' => e = .returned (.bool (pCue id x)) ∧ IsX W w' from fun x W hW => c_cueClo x id b1 W (Nat.lt_of_lt_of_le hb1 hW.size) (keep hW hb1 l1))
  rw [← hnn] at hn ⊢
  clear hnn l1 hb1
  go_enter Try.func65, Try.ntmps65
  go_wp2
  go_loopw [8] (fun i wr => ∃ k : Nat, k ≤ n ∧ i = .int .i64 k ∧ (∀ i (h : i < xs.length), i < k → pCue id xs[i] = false) ∧ IsX w wr) (fun i _ => n - (intOf i).toNat)
  case atStart => exact ⟨0, Nat.zero_le _, rfl, fun i h hi => absurd hi (by omega), IsX.refl _⟩
  case round =>
    obtain ⟨k, hk, rfl, hall, p, rfl⟩ := hrel
    have HA := hide hall
    clear hall
    by_cases hlt : k < n
    · have hltx : k < xs.length := HN.out ▸ hlt
      obtain ⟨b, off, rfl, hb, c0, c1, c2, c3, c4, c5⟩ := CueD.rd hA (show xs[k]? = some xs[k] from List.getElem?_eq_getElem _)
      clear hA
      cases hp : pCue id xs[k]
      · have HP := hide hp
        skip
        go_wp2_with (go_at_call 66; refine (cb (HC.out xs[k] _ ⟨p, rfl⟩) hp).mono ?_; rintro e w1 ⟨rfl, q, rfl⟩)
        go_roundw
        case rel => exact ⟨k + 1, by omega, by go_num, step_all hltx HA.out HP.out, IsX.xt ⟨p, rfl⟩ q⟩
        case measure => simp [intOf]; omega
      · have HR := hide (show cueI id xs = (k : Int) from idxI_at hltx HA.out hp)
        skip
        go_wp2_with (go_at_call 66; refine (cb (HC.out xs[k] _ ⟨p, rfl⟩) hp).mono ?_; rintro e w1 ⟨rfl, q, rfl⟩)
        go_ret
        exact ⟨by rw [HR.out]; rfl, IsX.xt ⟨p, rfl⟩ q⟩
    · have HR := hide (show cueI id xs = -1 from idxI_none (fun i h => HA.out i h (by have := HN.out; omega)))
      go_wp2
      go_ret
      exact ⟨by rw [HR.out]; rfl, ⟨p, rfl⟩⟩

theorem c_cueIndex (id : ByteArray) (A : Option Addr) (c : Nat) (xs : List CueD) (w : World) (hn : xs.length ≤ 1099511627776) (hA : Rd CueD.cells 6 w A xs) :
    Calls Try.prog 40 #[.slice A xs.length c, .string id] w fun e w' => e = .returned (.int .i64 (cueI id xs)) ∧ IsX w w' := by
  go_enter Try.func40, Try.ntmps40
  go_wp2_with fail
  obtain ⟨W, hW⟩ : ∃ W, W = w.alloc (.cells #[.string id] 9) := ⟨_, rfl⟩
  have hx : IsX w W := hW ▸ (IsX.refl w).alloc _
  have hB : Blk W w.heap.size 9 #[.string id] := hW ▸ Blk.new w _ _
  rw [← hW]
  clear hW
  refine (c_IndexCue id w.heap.size A c xs W hn (hA.x hx) hB.lt (hB.cell 0)).mono ?_
  rintro e w1 ⟨rfl, hx1⟩
  go_wp2_with fail
  go_ret
  exact ⟨rfl, hx.trans hx1⟩

set_option maxHeartbeats 1600000 in
theorem c_ValidCue (x : CueD) (w : World) (hs0 : x.Id.size ≤ maxLen) (hs1 : x.Target.size ≤ maxLen) :
    Calls Try.prog 38 #[.agg #[.string x.Id, .int .i64 x.Time, .int .i64 x.Length, .string x.Target, .int .i64 x.Action, .int .i64 x.Val]] w fun e w' => e = .returned (.bool x.okB) ∧ IsX w w' := by
  cases h0 : nameB x.Id
  · have HR := hide (show x.okB = false by simp only [CueD.okB, CueD.actB, Bool.true_and, Bool.and_true, Bool.false_and, Bool.and_false, if_true, if_false, Bool.false_eq_true, h0])
    go_enter Try.func38, Try.ntmps38
    go_wp2_with (first | (go_at_call 30; (with_reducible refine (c_IsName x.Id _ hs0).mono ?_); rintro e w' ⟨rfl, rfl⟩) | (go_at_call 30; (with_reducible refine (c_IsName x.Target _ hs1).mono ?_); rintro e w' ⟨rfl, rfl⟩) | (go_at_call 26; refine (c_within _ _ _ _).mono ?_; rintro e w' ⟨rfl, rfl⟩))
    go_ret
    exact ⟨by rw [HR.out]; first | rfl | exact congrArg (fun b => Ending.returned (Value.bool b)) (by simp; omega), ((IsX.refl _).alloc _)⟩
  cases h1 : nameB x.Target
  · have HR := hide (show x.okB = false by simp only [CueD.okB, CueD.actB, Bool.true_and, Bool.and_true, Bool.false_and, Bool.and_false, if_true, if_false, Bool.false_eq_true, h0, h1])
    go_enter Try.func38, Try.ntmps38
    go_wp2_with (first | (go_at_call 30; (with_reducible refine (c_IsName x.Id _ hs0).mono ?_); rintro e w' ⟨rfl, rfl⟩) | (go_at_call 30; (with_reducible refine (c_IsName x.Target _ hs1).mono ?_); rintro e w' ⟨rfl, rfl⟩) | (go_at_call 26; refine (c_within _ _ _ _).mono ?_; rintro e w' ⟨rfl, rfl⟩))
    go_ret
    exact ⟨by rw [HR.out]; first | rfl | exact congrArg (fun b => Ending.returned (Value.bool b)) (by simp; omega), ((IsX.refl _).alloc _)⟩
  cases h2 : inB x.Time 0 7200000
  · have HR := hide (show x.okB = false by simp only [CueD.okB, CueD.actB, Bool.true_and, Bool.and_true, Bool.false_and, Bool.and_false, if_true, if_false, Bool.false_eq_true, h0, h1, h2])
    go_enter Try.func38, Try.ntmps38
    go_wp2_with (first | (go_at_call 30; (with_reducible refine (c_IsName x.Id _ hs0).mono ?_); rintro e w' ⟨rfl, rfl⟩) | (go_at_call 30; (with_reducible refine (c_IsName x.Target _ hs1).mono ?_); rintro e w' ⟨rfl, rfl⟩) | (go_at_call 26; refine (c_within _ _ _ _).mono ?_; rintro e w' ⟨rfl, rfl⟩))
    go_ret
    exact ⟨by rw [HR.out]; first | rfl | exact congrArg (fun b => Ending.returned (Value.bool b)) (by simp; omega), ((IsX.refl _).alloc _)⟩
  have bt := inB_true.1 h2
  obtain ⟨bt0, bt1⟩ := bt
  cases h3 : inB x.Val 0 1000
  · have HR := hide (show x.okB = false by simp only [CueD.okB, CueD.actB, Bool.true_and, Bool.and_true, Bool.false_and, Bool.and_false, if_true, if_false, Bool.false_eq_true, h0, h1, h2, h3])
    go_enter Try.func38, Try.ntmps38
    go_wp2_with (first | (go_at_call 30; (with_reducible refine (c_IsName x.Id _ hs0).mono ?_); rintro e w' ⟨rfl, rfl⟩) | (go_at_call 30; (with_reducible refine (c_IsName x.Target _ hs1).mono ?_); rintro e w' ⟨rfl, rfl⟩) | (go_at_call 26; refine (c_within _ _ _ _).mono ?_; rintro e w' ⟨rfl, rfl⟩))
    go_ret
    exact ⟨by rw [HR.out]; first | rfl | exact congrArg (fun b => Ending.returned (Value.bool b)) (by simp; omega), ((IsX.refl _).alloc _)⟩
  cases a1 : (x.Action == 1)
  rotate_left
  · have e1 := eq_of_beq a1
    have HR := hide (show x.okB = (x.Length == 0) by simp only [CueD.okB, CueD.actB, Bool.true_and, Bool.and_true, Bool.false_and, Bool.and_false, if_true, if_false, Bool.false_eq_true, h0, h1, h2, h3, a1])
    go_enter Try.func38, Try.ntmps38
    go_wp2_with (first | (go_at_call 30; (with_reducible refine (c_IsName x.Id _ hs0).mono ?_); rintro e w' ⟨rfl, rfl⟩) | (go_at_call 30; (with_reducible refine (c_IsName x.Target _ hs1).mono ?_); rintro e w' ⟨rfl, rfl⟩) | (go_at_call 26; refine (c_within _ _ _ _).mono ?_; rintro e w' ⟨rfl, rfl⟩))
    go_ret
    exact ⟨by rw [HR.out]; first | rfl | exact congrArg (fun b => Ending.returned (Value.bool b)) (by simp; omega), ((IsX.refl _).alloc _)⟩
  have n1 : ¬ x.Action = 1 := by simpa using a1
  cases a2 : (x.Action == 2)
  rotate_left
  · skip
    have HR := hide (show x.okB = (inB x.Length 1 (7200000 - x.Time)) by simp only [CueD.okB, CueD.actB, Bool.true_and, Bool.and_true, Bool.false_and, Bool.and_false, if_true, if_false, Bool.false_eq_true, h0, h1, h2, h3, a1, a2])
    go_enter Try.func38, Try.ntmps38
    go_wp2_with (first | (go_at_call 30; (with_reducible refine (c_IsName x.Id _ hs0).mono ?_); rintro e w' ⟨rfl, rfl⟩) | (go_at_call 30; (with_reducible refine (c_IsName x.Target _ hs1).mono ?_); rintro e w' ⟨rfl, rfl⟩) | (go_at_call 26; refine (c_within _ _ _ _).mono ?_; rintro e w' ⟨rfl, rfl⟩))
    go_ret
    exact ⟨by rw [HR.out]; first | rfl | exact congrArg (fun b => Ending.returned (Value.bool b)) (by simp; omega), ((IsX.refl _).alloc _)⟩
  cases a3 : (x.Action == 3)
  · skip
    have HR := hide (show x.okB = false by simp only [CueD.okB, CueD.actB, Bool.true_and, Bool.and_true, Bool.false_and, Bool.and_false, if_true, if_false, Bool.false_eq_true, h0, h1, h2, h3, a1, a2, a3])
    go_enter Try.func38, Try.ntmps38
    go_wp2_with (first | (go_at_call 30; (with_reducible refine (c_IsName x.Id _ hs0).mono ?_); rintro e w' ⟨rfl, rfl⟩) | (go_at_call 30; (with_reducible refine (c_IsName x.Target _ hs1).mono ?_); rintro e w' ⟨rfl, rfl⟩) | (go_at_call 26; refine (c_within _ _ _ _).mono ?_; rintro e w' ⟨rfl, rfl⟩))
    go_ret
    exact ⟨by rw [HR.out]; first | rfl | exact congrArg (fun b => Ending.returned (Value.bool b)) (by simp; omega), ((IsX.refl _).alloc _)⟩
  cases a4 : (x.Length == 0)
  · skip
    have HR := hide (show x.okB = false by simp only [CueD.okB, CueD.actB, Bool.true_and, Bool.and_true, Bool.false_and, Bool.and_false, if_true, if_false, Bool.false_eq_true, h0, h1, h2, h3, a1, a2, a3, a4])
    go_enter Try.func38, Try.ntmps38
    go_wp2_with (first | (go_at_call 30; (with_reducible refine (c_IsName x.Id _ hs0).mono ?_); rintro e w' ⟨rfl, rfl⟩) | (go_at_call 30; (with_reducible refine (c_IsName x.Target _ hs1).mono ?_); rintro e w' ⟨rfl, rfl⟩) | (go_at_call 26; refine (c_within _ _ _ _).mono ?_; rintro e w' ⟨rfl, rfl⟩))
    go_ret
    exact ⟨by rw [HR.out]; first | rfl | exact congrArg (fun b => Ending.returned (Value.bool b)) (by simp; omega), ((IsX.refl _).alloc _)⟩
  have HR := hide (show x.okB = (x.Val == 0) by simp only [CueD.okB, CueD.actB, Bool.true_and, Bool.and_true, Bool.false_and, Bool.and_false, if_true, if_false, Bool.false_eq_true, h0, h1, h2, h3, a1, a2, a3, a4])
  go_enter Try.func38, Try.ntmps38
  go_wp2_with (first | (go_at_call 30; (with_reducible refine (c_IsName x.Id _ hs0).mono ?_); rintro e w' ⟨rfl, rfl⟩) | (go_at_call 30; (with_reducible refine (c_IsName x.Target _ hs1).mono ?_); rintro e w' ⟨rfl, rfl⟩) | (go_at_call 26; refine (c_within _ _ _ _).mono ?_; rintro e w' ⟨rfl, rfl⟩))
  go_ret
  exact ⟨by rw [HR.out]; first | rfl | exact congrArg (fun b => Ending.returned (Value.bool b)) (by simp; omega), ((IsX.refl _).alloc _)⟩

end Go.Proofs.Ytegehdhdlljikaa
