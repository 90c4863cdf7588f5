/- Levels: the program's test, nearest. Conditions: lists no longer than 2^40. -/
import Derived.Test.YthcgapfhlggegaaPatch
namespace Go.Proofs.Ythcgapfhlggegaa
set_option linter.unusedVariables false
open Go.RowKit

def levelsB (ws : List Int) : Bool := decide (ws.length ≤ 512) && ws.all (fun n => inB n 0 255)
def levelNot (n : Int) : Bool := !(inB n 0 255)
theorem levels_all {ws : List Int} : ws.all (fun n => inB n 0 255) = !(ws.any levelNot) := by
  induction ws with
  | nil => rfl
  | cons a ws ih => simp [List.all_cons, List.any_cons, ih, levelNot]
theorem levels_of {ws : List Int} (h : levelsB ws = true) : ws.length ≤ 512 ∧ ∀ x ∈ ws, 0 ≤ x ∧ x ≤ 255 := by
  simp only [levelsB, Bool.and_eq_true, decide_eq_true_eq, List.all_eq_true] at h
  exact ⟨h.1, fun x hx => inB_true.1 (h.2 x hx)⟩
theorem c_clo_level (n : Int) (w : World) : Calls Try.prog 39 #[.int .i64 n] w fun e w' => e = .returned (.bool (levelNot n)) ∧ IsX w w' := by
  go_enter Try.func39, Try.ntmps39
  go_wp2_with (go_at_call 23; refine (c_within _ _ _ _).mono ?_; rintro e w' ⟨rfl, rfl⟩)
  go_ret
  exact ⟨rfl, IsX.refl _⟩

set_option maxHeartbeats 400000 in
theorem c_Index_level (A : Option Addr) (c : Nat) (xs : List Int) (w : World) (hn : xs.length ≤ 1099511627776) (hA : Rd intC 1 w A xs) :
    Calls Try.prog 41 #[.slice A xs.length c, .func (.func 39) #[] #[]] w fun e w' => e = .returned (.int .i64 (idxI levelNot xs)) ∧ IsX w w' := by
  obtain ⟨n, hnn⟩ : ∃ n, n = xs.length := ⟨_, rfl⟩
  have HN := hide hnn
  rw [← hnn] at hn ⊢
  clear hnn
  go_enter Try.func41, Try.ntmps41
  go_wp2
  go_loopw [8] (fun i wr => ∃ k : Nat, k ≤ n ∧ i = .int .i64 k ∧ (∀ i (h : i < xs.length), i < k → levelNot xs[i] = false) ∧ IsX w wr) (fun i _ => n - (intOf i).toNat)
  case atStart => exact ⟨0, Nat.zero_le _, rfl, fun i h hi => absurd hi (by omega), IsX.refl _⟩
  case round =>
    obtain ⟨k, hk, rfl, hall, p, rfl⟩ := hrel
    have HA := hide hall
    clear hall
    by_cases hlt : k < n
    · have hltx : k < xs.length := HN.out ▸ hlt
      obtain ⟨b, off, rfl, hb, c0⟩ := int_rd hA (show xs[k]? = some xs[k] from List.getElem?_eq_getElem _)
      clear hA
      cases hp : levelNot xs[k]
      · have HP := hide hp
        go_wp2_with (go_at_call 39; refine (c_clo_level xs[k] _).mono ?_; rintro e w1 ⟨rfl, q, rfl⟩)
        go_roundw
        case rel => exact ⟨k + 1, by omega, by go_num, step_all hltx HA.out HP.out, IsX.xt ⟨p, rfl⟩ q⟩
        case measure => simp [intOf]; omega
      · have HR := hide (idxI_at hltx HA.out hp)
        go_wp2_with (go_at_call 39; refine (c_clo_level xs[k] _).mono ?_; rintro e w1 ⟨rfl, q, rfl⟩)
        go_ret
        exact ⟨by rw [HR.out]; rfl, IsX.xt ⟨p, rfl⟩ q⟩
    · have HR := hide (idxI_none (p := levelNot) (xs := xs) (fun i h => HA.out i h (by have := HN.out; omega)))
      go_wp2
      go_ret
      exact ⟨by rw [HR.out]; rfl, ⟨p, rfl⟩⟩

theorem c_Contains_level (A : Option Addr) (c : Nat) (xs : List Int) (w : World) (hn : xs.length ≤ 1099511627776) (hA : Rd intC 1 w A xs) :
    Calls Try.prog 37 #[.slice A xs.length c, .func (.func 39) #[] #[]] w fun e w' => e = .returned (.bool (xs.any levelNot)) ∧ IsX w w' := by
  have HI := hide (idxI_ge levelNot xs)
  go_enter Try.func37, Try.ntmps37
  go_wp2_with fail
  refine (c_Index_level A c xs w hn hA).mono ?_
  rintro e w1 ⟨rfl, hx⟩
  go_wp2_with fail
  go_ret
  exact ⟨by rw [← HI.out.2.2]; rfl, hx⟩

theorem c_areLevels (A : Option Addr) (c : Nat) (xs : List Int) (w : World) (hn : xs.length ≤ 1099511627776) (hA : Rd intC 1 w A xs) :
    Calls Try.prog 32 #[.slice A xs.length c] w fun e w' => e = .returned (.bool (levelsB xs)) ∧ IsX w w' := by
  by_cases hl : 512 < xs.length
  · have HR := hide (show levelsB xs = false by rw [levelsB, decide_eq_false (by omega)]; rfl)
    generalize xs.length = n at hn hl ⊢
    go_enter Try.func32, Try.ntmps32
    go_wp2_with fail
    go_ret
    exact ⟨by rw [HR.out]; rfl, IsX.refl _⟩
  · have HR := hide (show levelsB xs = !(xs.any levelNot) by rw [levelsB, decide_eq_true (by omega), levels_all]; rfl)
    have HC := hide (c_Contains_level A c xs w hn hA)
    generalize hnn : xs.length = n at hn hl HC ⊢
    clear hnn
    go_enter Try.func32, Try.ntmps32
    go_wp2_with fail
    refine HC.out.mono ?_
    rintro e w1 ⟨rfl, hx⟩
    go_wp2_with fail
    go_ret
    exact ⟨by rw [HR.out]; rfl, hx⟩
theorem made_ints (n : Nat) : madeCells (Value.int .i64 0).cells (n * 1) = intArr (List.replicate n 0) := by
  have e : (Value.int .i64 0).cells = #[.int .i64 0] := rfl
  rw [e, Nat.mul_one]
  apply Array.toList_inj.1
  rw [toList_madeCells_one]
  simp [intArr, flat_ints]
theorem make_ints (n : Nat) (hn : n ≤ 1099511627776) (W : World) :
    (Instr.makeSlice 27 (.int .i64 (n : Int)) (.int .i64 (n : Int))).run Try.prog W = .ok (.slice (some ⟨W.heap.size, 0, none⟩) n n) (W.alloc (.cells (intArr (List.replicate n 0)) 2)) := by
  obtain ⟨i0, hi0, hz0, hz1, hz2⟩ := info_parts Int64_info
  have h := run_make_rowN (P := Try.prog) 27 2 i0 _ Try.underlying27 hi0 hz0 .i64 .i64 n n (Nat.le_refl _) (by rw [hz2]; omega) (by omega) W
  rw [hz1, made_ints] at h
  exact h

theorem c_absOf (x : Int) (w : World) (h : -1000000000 ≤ x ∧ x ≤ 1000000000) : Calls Try.prog 40 #[.int .i64 x] w fun e w' => e = .returned (.int .i64 (if x < 0 then -x else x)) ∧ w = w' := by
  by_cases hx : x < 0
  · rw [if_pos hx]
    go_enter Try.func40, Try.ntmps40
    go_wp2
    go_ret
    exact ⟨rfl, rfl⟩
  · rw [if_neg hx]
    go_enter Try.func40, Try.ntmps40
    go_wp2
    go_ret
    exact ⟨rfl, rfl⟩
theorem quorem (x : Int) : ∃ q r, x.tdiv 1000 = q ∧ x.tmod 1000 = r ∧ 1000 * q + r = x ∧ (0 ≤ x → 0 ≤ r ∧ r ≤ 999) ∧ (x < 0 → -999 ≤ r ∧ r ≤ 0) := by
  refine ⟨_, _, rfl, rfl, Int.mul_tdiv_add_tmod x 1000, fun h => ?_, fun h => ?_⟩
  · rw [Int.tmod_eq_emod_of_nonneg h]; omega
  · have e : x = -(-x) := by omega
    rw [e, Int.neg_tmod, Int.tmod_eq_emod_of_nonneg (by omega)]; omega
/-- what nearest answers to a / 1000 -/
def NearP (x r : Int) : Prop := -500 ≤ 1000 * r - x ∧ 1000 * r - x ≤ 500
set_option maxHeartbeats 3200000 in
set_option maxRecDepth 100000 in
theorem c_nearest (x : Int) (w : World) (h : -255000 ≤ x ∧ x ≤ 255000) : Calls Try.prog 33 #[.int .i64 x, .int .i64 1000] w fun e w' => ∃ r : Int, e = .returned (.int .i64 r) ∧ NearP x r ∧ IsX w w' := by
  obtain ⟨q, r, hq, hr, hx, h1, h2⟩ := quorem x
  have HX := hide hx
  have hqb : -300 ≤ q ∧ q ≤ 300 := by
    rcases Int.lt_or_le x 0 with h3 | h3
    · have := h2 h3; omega
    · have := h1 h3; omega
  have hrb : -999 ≤ r ∧ r ≤ 999 := by
    rcases Int.lt_or_le x 0 with h3 | h3
    · have := h2 h3; omega
    · have := h1 h3; omega
  clear hx
  obtain ⟨hq0, hq1⟩ := hqb
  obtain ⟨hr0, hr1⟩ := hrb
  have HA1 := hide (fun V : World => c_absOf r V (by omega))
  have HA2 := hide (fun V : World => show Calls Try.prog 40 #[.int .i64 1000] V fun e w' => e = .returned (.int .i64 1000) ∧ V = w' from (c_absOf 1000 V (by omega)).mono (fun e w' h => by simpa using h))
  have hd3 : decide ((1000 : Int) < 0) = false := rfl
  by_cases hxn : x < 0
  · obtain ⟨h3, h4⟩ := h2 hxn
    have hd4 : decide (x < 0) = true := decide_eq_true hxn
    obtain ⟨a, ha⟩ : ∃ a, a = (if r < 0 then -r else r) := ⟨_, rfl⟩
    have ha2 : a = -r := by rw [ha]; split <;> omega
    rw [← ha, ha2] at HA1
    clear ha ha2 h1 h2
    go_enter Try.func33, Try.ntmps33
    go_wp2_with fail
    refine wp_region_x (by kernel_rfl) (by kernel_rfl) ?_
    repeat (go_big_quiet_step ((go_at_call 40; exact call_q (HA1.out _))))
    refine wpQuiet_nil ?_
    rintro _ ⟨p, rfl⟩
    clear hq hr
    go_wp2_with fail
    refine (HA2.out _).mono ?_
    rintro e w' ⟨rfl, rfl⟩
    by_cases hc : -r < 1000 - -r
    · go_wp2_with fail
      go_ret
      exact ⟨q, rfl, by have := HX.out; unfold NearP; omega, ⟨p, rfl⟩⟩
    · go_wp2_with fail
      go_ret
      exact ⟨q - 1, rfl, by have := HX.out; unfold NearP; omega, ⟨p, rfl⟩⟩
  · obtain ⟨h3, h4⟩ := h1 (by omega)
    have hd4 : decide (x < 0) = false := decide_eq_false hxn
    obtain ⟨a, ha⟩ : ∃ a, a = (if r < 0 then -r else r) := ⟨_, rfl⟩
    have ha2 : a = r := by rw [ha]; split <;> omega
    rw [← ha, ha2] at HA1
    clear ha ha2 h1 h2
    go_enter Try.func33, Try.ntmps33
    go_wp2_with fail
    refine wp_region_x (by kernel_rfl) (by kernel_rfl) ?_
    repeat (go_big_quiet_step ((go_at_call 40; exact call_q (HA1.out _))))
    refine wpQuiet_nil ?_
    rintro _ ⟨p, rfl⟩
    clear hq hr
    go_wp2_with fail
    refine (HA2.out _).mono ?_
    rintro e w' ⟨rfl, rfl⟩
    by_cases hc : r < 1000 - r
    · go_wp2_with fail
      go_ret
      exact ⟨q, rfl, by have := HX.out; unfold NearP; omega, ⟨p, rfl⟩⟩
    · go_wp2_with fail
      go_ret
      exact ⟨q + 1, rfl, by have := HX.out; unfold NearP; omega, ⟨p, rfl⟩⟩
end Go.Proofs.Ythcgapfhlggegaa
