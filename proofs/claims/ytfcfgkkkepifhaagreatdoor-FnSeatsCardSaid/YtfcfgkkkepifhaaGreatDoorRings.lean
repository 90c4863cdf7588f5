/- Lists of Ring: what the validity tests of the reference and of the program compute, and sums. Conditions: strings no longer than 2^63 - 1 bytes, lists no longer than 2^40. -/
import Derived.Test.YtfcfgkkkepifhaaGreatDoorFlatRing
import Derived.Test.YtfcfgkkkepifhaaGreatDoorNames
import Derived.Test.YtfcfgkkkepifhaaGreatDoorLists
namespace Go.Proofs.YtfcfgkkkepifhaaGreatDoor
set_option linter.unusedVariables false
open Go.RowKit

def RingD.okB (x : RingD) : Bool := inB x.Radius 500 30000 && inB x.Count 1 60 && inB x.From 0 359999 && inB x.Step 1000 90000 && inB x.Price 0 10000 && decide (x.Count * x.Step ≤ 360000)
def RingD.geB (x y : RingD) : Bool := decide (y.Radius ≤ x.Radius)
def sumCount (xs : List RingD) : Int := (xs.map (·.Count)).sum
theorem sumCount_take (xs : List RingD) (k : Nat) (h : k < xs.length) : sumCount (xs.take (k + 1)) = sumCount (xs.take k) + xs[k].Count := by
  simp only [sumCount, List.take_succ_eq_append_getElem h, List.map_append, List.sum_append, List.map_cons, List.map_nil, List.sum_cons, List.sum_nil, Int.add_zero]
theorem sumCount_bd (m : Int) (hm : 0 ≤ m) : ∀ (xs : List RingD), (∀ x ∈ xs, 0 ≤ x.Count ∧ x.Count ≤ m) → 0 ≤ sumCount xs ∧ sumCount xs ≤ xs.length * m
  | [], _ => by simp [sumCount]
  | x :: xs, h => by
    have h1 := sumCount_bd m hm xs (fun y hy => h y (List.mem_cons_of_mem _ hy))
    have h2 := h x List.mem_cons_self
    have e : sumCount (x :: xs) = x.Count + sumCount xs := by simp [sumCount]
    have e2 : (((x :: xs).length : Nat) : Int) * m = m + xs.length * m := by
      simp only [List.length_cons, Int.natCast_add, Int.natCast_one, Int.add_mul, Int.one_mul]; omega
    omega
def ringsB (xs : List RingD) : Bool := decide (xs.length ≤ 6) && allGood RingD.okB RingD.geB xs && decide (sumCount xs ≤ 120)

set_option maxHeartbeats 400000 in
theorem c_l23All (A : Option Addr) (c : Nat) (xs : List RingD) (w : World) (hn : xs.length ≤ 1099511627776) (hb : ∀ x ∈ xs, 0 ≤ x.Count ∧ x.Count ≤ 1048576) (hA : Rd RingD.cells 5 w A xs) :
    Calls Tryz.prog 43 #[.slice A xs.length c] w fun e w' => e = .returned (.int .i64 (sumCount xs)) ∧ IsX w w' := by
  obtain ⟨n, hnn⟩ : ∃ n, n = xs.length := ⟨_, rfl⟩
  have HN := hide hnn
  rw [← hnn] at hn ⊢
  clear hnn
  have HB := hide hb
  clear hb
  go_enter Tryz.func43, Tryz.ntmps43
  go_wp2
  go_loopw [3, 4] (fun s i wr => ∃ k : Nat, k ≤ n ∧ i = .int .i64 k ∧ s = .int .i64 (sumCount (xs.take k)) ∧ IsX w wr) (fun _ i _ => n - (intOf i).toNat)
  case atStart => exact ⟨0, Nat.zero_le _, rfl, rfl, IsX.refl _⟩
  case round =>
    obtain ⟨k, hk, rfl, rfl, p, rfl⟩ := hrel
    by_cases hlt : k < n
    · have hltx : k < xs.length := HN.out ▸ hlt
      obtain ⟨b, off, rfl, hb, c0, c1, c2, c3, c4⟩ := RingD.rd hA (show xs[k]? = some xs[k] from List.getElem?_eq_getElem _)
      clear hA
      have HS := hide (sumCount_take xs k hltx)
      obtain ⟨y0, y1⟩ := HB.out _ (List.getElem_mem hltx)
      obtain ⟨z0, z1⟩ := sumCount_bd 1048576 (by omega) (xs.take k) (fun x hx => HB.out x (List.mem_of_mem_take hx))
      have hlk : (xs.take k).length ≤ k := List.length_take_le _ _
      go_wp2
      go_roundw
      case rel => exact ⟨k + 1, by omega, by go_num, by rw [HS.out], ⟨p, rfl⟩⟩
      case measure => simp [intOf]; omega
    · obtain rfl : k = n := by omega
      have HT := hide (show xs.take k = xs by rw [HN.out]; exact List.take_length)
      go_wp2
      go_ret
      exact ⟨by rw [HT.out]; rfl, ⟨p, rfl⟩⟩

set_option maxHeartbeats 400000 in
theorem c_seatCount (A : Option Addr) (c : Nat) (xs : List RingD) (w : World) (hn : xs.length ≤ 1099511627776) (hb : ∀ x ∈ xs, 0 ≤ x.Count ∧ x.Count ≤ 1048576) (hA : Rd RingD.cells 5 w A xs) :
    Calls Tryz.prog 31 #[.slice A xs.length c] w fun e w' => e = .returned (.int .i64 (sumCount xs)) ∧ IsX w w' := by
  obtain ⟨n, hnn⟩ : ∃ n, n = xs.length := ⟨_, rfl⟩
  have HN := hide hnn
  rw [← hnn] at hn ⊢
  clear hnn
  have HB := hide hb
  clear hb
  go_enter Tryz.func31, Tryz.ntmps31
  go_wp2
  go_loopw [3, 8] (fun s i wr => ∃ k : Nat, k ≤ n ∧ i = .int .i64 k ∧ s = .int .i64 (sumCount (xs.take k)) ∧ IsX w wr) (fun _ i _ => n - (intOf i).toNat)
  case atStart => exact ⟨0, Nat.zero_le _, rfl, rfl, IsX.refl _⟩
  case round =>
    obtain ⟨k, hk, rfl, rfl, p, rfl⟩ := hrel
    by_cases hlt : k < n
    · have hltx : k < xs.length := HN.out ▸ hlt
      obtain ⟨b, off, rfl, hb, c0, c1, c2, c3, c4⟩ := RingD.rd hA (show xs[k]? = some xs[k] from List.getElem?_eq_getElem _)
      clear hA
      have HS := hide (sumCount_take xs k hltx)
      obtain ⟨y0, y1⟩ := HB.out _ (List.getElem_mem hltx)
      obtain ⟨z0, z1⟩ := sumCount_bd 1048576 (by omega) (xs.take k) (fun x hx => HB.out x (List.mem_of_mem_take hx))
      have hlk : (xs.take k).length ≤ k := List.length_take_le _ _
      go_wp2
      go_roundw
      case rel => exact ⟨k + 1, by omega, by go_num, by rw [HS.out], IsX.alloc ⟨p, rfl⟩ _⟩
      case measure => simp [intOf]; omega
    · obtain rfl : k = n := by omega
      have HT := hide (show xs.take k = xs by rw [HN.out]; exact List.take_length)
      go_wp2
      go_ret
      exact ⟨by rw [HT.out]; rfl, ⟨p, rfl⟩⟩

set_option maxHeartbeats 800000 in
theorem c_validRing (x : RingD) (w : World) :
    Calls Tryz.prog 40 #[.agg #[.int .i64 x.Radius, .int .i64 x.Count, .int .i64 x.From, .int .i64 x.Step, .int .i64 x.Price]] w fun e w' => e = .returned (.bool x.okB) ∧ IsX w w' := by
  cases h0 : inB x.Radius 500 30000
  · have HR := hide (show x.okB = false by simp [RingD.okB, h0])
    go_enter Tryz.func40, Tryz.ntmps40
    go_wp2_with (first | (go_at_call 63; refine (c_within _ _ _ _).mono ?_; rintro e w' ⟨rfl, rfl⟩))
    go_ret
    exact ⟨by rw [HR.out]; first | rfl | exact congrArg (fun b => Ending.returned (Value.bool b)) (by simp; omega), (IsX.refl _).alloc _⟩
  cases h1 : inB x.Count 1 60
  · have HR := hide (show x.okB = false by simp [RingD.okB, h0, h1])
    go_enter Tryz.func40, Tryz.ntmps40
    go_wp2_with (first | (go_at_call 63; refine (c_within _ _ _ _).mono ?_; rintro e w' ⟨rfl, rfl⟩))
    go_ret
    exact ⟨by rw [HR.out]; first | rfl | exact congrArg (fun b => Ending.returned (Value.bool b)) (by simp; omega), (IsX.refl _).alloc _⟩
  obtain ⟨bc0, bc1⟩ := inB_true.1 h1
  cases h2 : inB x.From 0 359999
  · have HR := hide (show x.okB = false by simp [RingD.okB, h0, h1, h2])
    go_enter Tryz.func40, Tryz.ntmps40
    go_wp2_with (first | (go_at_call 63; refine (c_within _ _ _ _).mono ?_; rintro e w' ⟨rfl, rfl⟩))
    go_ret
    exact ⟨by rw [HR.out]; first | rfl | exact congrArg (fun b => Ending.returned (Value.bool b)) (by simp; omega), (IsX.refl _).alloc _⟩
  cases h3 : inB x.Step 1000 90000
  · have HR := hide (show x.okB = false by simp [RingD.okB, h0, h1, h2, h3])
    go_enter Tryz.func40, Tryz.ntmps40
    go_wp2_with (first | (go_at_call 63; refine (c_within _ _ _ _).mono ?_; rintro e w' ⟨rfl, rfl⟩))
    go_ret
    exact ⟨by rw [HR.out]; first | rfl | exact congrArg (fun b => Ending.returned (Value.bool b)) (by simp; omega), (IsX.refl _).alloc _⟩
  obtain ⟨bt0, bt1⟩ := inB_true.1 h3
  have bm0 : 0 ≤ x.Count * x.Step := Int.mul_nonneg (by omega) (by omega)
  have bm1 : x.Count * x.Step ≤ 60 * 90000 := Int.mul_le_mul bc1 bt1 (by omega) (by omega)
  cases h4 : inB x.Price 0 10000
  · have HR := hide (show x.okB = false by simp [RingD.okB, h0, h1, h2, h3, h4])
    go_enter Tryz.func40, Tryz.ntmps40
    go_wp2_with (first | (go_at_call 63; refine (c_within _ _ _ _).mono ?_; rintro e w' ⟨rfl, rfl⟩))
    go_ret
    exact ⟨by rw [HR.out]; first | rfl | exact congrArg (fun b => Ending.returned (Value.bool b)) (by simp; omega), (IsX.refl _).alloc _⟩
  by_cases hd5 : x.Count * x.Step ≤ 360000
  rotate_left
  · have HR := hide (show x.okB = false by simp [RingD.okB, h0, h1, h2, h3, h4, hd5])
    go_enter Tryz.func40, Tryz.ntmps40
    go_wp2_with (first | (go_at_call 63; refine (c_within _ _ _ _).mono ?_; rintro e w' ⟨rfl, rfl⟩))
    go_ret
    exact ⟨by rw [HR.out]; first | rfl | exact congrArg (fun b => Ending.returned (Value.bool b)) (by simp; omega), (IsX.refl _).alloc _⟩
  have HR := hide (show x.okB = true by simp [RingD.okB, h0, h1, h2, h3, h4, hd5])
  go_enter Tryz.func40, Tryz.ntmps40
  go_wp2_with (first | (go_at_call 63; refine (c_within _ _ _ _).mono ?_; rintro e w' ⟨rfl, rfl⟩))
  go_ret
  exact ⟨by rw [HR.out]; first | rfl | exact congrArg (fun b => Ending.returned (Value.bool b)) (by simp; omega), (IsX.refl _).alloc _⟩

set_option maxHeartbeats 1600000 in
theorem c_l23One (x : RingD) (b off : Nat) (w : World) (hb : b < w.heap.size) (c0 : w.cell? ⟨b, off, none⟩ = some (.int .i64 x.Radius)) (c1 : w.cell? ⟨b, off + 1, none⟩ = some (.int .i64 x.Count)) (c2 : w.cell? ⟨b, off + 2, none⟩ = some (.int .i64 x.From)) (c3 : w.cell? ⟨b, off + 3, none⟩ = some (.int .i64 x.Step)) (c4 : w.cell? ⟨b, off + 4, none⟩ = some (.int .i64 x.Price)) :
    Calls Tryz.prog 77 #[.pointer (some ⟨b, off, none⟩)] w fun e w' => e = .returned (.bool x.okB) ∧ IsX w w' := by
  cases h0 : inB x.Radius 500 30000
  · have HR := hide (show x.okB = false by simp [RingD.okB, h0])
    go_enter Tryz.func77, Tryz.ntmps77
    go_wp2
    refine wp_region_x (by kernel_rfl) (by kernel_rfl) ?_
    repeat (go_big_quiet_step ((first | (go_at_call 87; with_reducible exact call_q (cb (c_in x.Radius 500 30000 _) h0)))))
    refine wpQuiet_nil ?_
    rintro _ ⟨q, rfl⟩
    go_wp2
    go_ret
    exact ⟨by rw [HR.out]; first | rfl | exact congrArg (fun b => Ending.returned (Value.bool b)) (by simp; omega), ⟨q, rfl⟩⟩
  cases h1 : inB x.Count 1 60
  · have HR := hide (show x.okB = false by simp [RingD.okB, h0, h1])
    go_enter Tryz.func77, Tryz.ntmps77
    go_wp2
    refine wp_region_x (by kernel_rfl) (by kernel_rfl) ?_
    repeat (go_big_quiet_step ((first | (go_at_call 87; with_reducible exact call_q (cb (c_in x.Radius 500 30000 _) h0)) | (go_at_call 87; with_reducible exact call_q (cb (c_in x.Count 1 60 _) h1)))))
    refine wpQuiet_nil ?_
    rintro _ ⟨q, rfl⟩
    go_wp2
    go_ret
    exact ⟨by rw [HR.out]; first | rfl | exact congrArg (fun b => Ending.returned (Value.bool b)) (by simp; omega), ⟨q, rfl⟩⟩
  obtain ⟨bc0, bc1⟩ := inB_true.1 h1
  cases h2 : inB x.From 0 359999
  · have HR := hide (show x.okB = false by simp [RingD.okB, h0, h1, h2])
    go_enter Tryz.func77, Tryz.ntmps77
    go_wp2
    refine wp_region_x (by kernel_rfl) (by kernel_rfl) ?_
    repeat (go_big_quiet_step ((first | (go_at_call 87; with_reducible exact call_q (cb (c_in x.Radius 500 30000 _) h0)) | (go_at_call 87; with_reducible exact call_q (cb (c_in x.Count 1 60 _) h1)) | (go_at_call 110; with_reducible exact call_q (cb (c_angle x.From _) h2)))))
    refine wpQuiet_nil ?_
    rintro _ ⟨q, rfl⟩
    go_wp2
    go_ret
    exact ⟨by rw [HR.out]; first | rfl | exact congrArg (fun b => Ending.returned (Value.bool b)) (by simp; omega), ⟨q, rfl⟩⟩
  cases h3 : inB x.Step 1000 90000
  · have HR := hide (show x.okB = false by simp [RingD.okB, h0, h1, h2, h3])
    go_enter Tryz.func77, Tryz.ntmps77
    go_wp2
    refine wp_region_x (by kernel_rfl) (by kernel_rfl) ?_
    repeat (go_big_quiet_step ((first | (go_at_call 87; with_reducible exact call_q (cb (c_in x.Radius 500 30000 _) h0)) | (go_at_call 87; with_reducible exact call_q (cb (c_in x.Count 1 60 _) h1)) | (go_at_call 110; with_reducible exact call_q (cb (c_angle x.From _) h2)) | (go_at_call 87; with_reducible exact call_q (cb (c_in x.Step 1000 90000 _) h3)))))
    refine wpQuiet_nil ?_
    rintro _ ⟨q, rfl⟩
    go_wp2
    go_ret
    exact ⟨by rw [HR.out]; first | rfl | exact congrArg (fun b => Ending.returned (Value.bool b)) (by simp; omega), ⟨q, rfl⟩⟩
  obtain ⟨bt0, bt1⟩ := inB_true.1 h3
  have bm0 : 0 ≤ x.Count * x.Step := Int.mul_nonneg (by omega) (by omega)
  have bm1 : x.Count * x.Step ≤ 60 * 90000 := Int.mul_le_mul bc1 bt1 (by omega) (by omega)
  cases h4 : inB x.Price 0 10000
  · have HR := hide (show x.okB = false by simp [RingD.okB, h0, h1, h2, h3, h4])
    go_enter Tryz.func77, Tryz.ntmps77
    go_wp2
    refine wp_region_x (by kernel_rfl) (by kernel_rfl) ?_
    repeat (go_big_quiet_step ((first | (go_at_call 87; with_reducible exact call_q (cb (c_in x.Radius 500 30000 _) h0)) | (go_at_call 87; with_reducible exact call_q (cb (c_in x.Count 1 60 _) h1)) | (go_at_call 110; with_reducible exact call_q (cb (c_angle x.From _) h2)) | (go_at_call 87; with_reducible exact call_q (cb (c_in x.Step 1000 90000 _) h3)) | (go_at_call 87; with_reducible exact call_q (cb (c_in x.Price 0 10000 _) h4)))))
    refine wpQuiet_nil ?_
    rintro _ ⟨q, rfl⟩
    go_wp2
    go_ret
    exact ⟨by rw [HR.out]; first | rfl | exact congrArg (fun b => Ending.returned (Value.bool b)) (by simp; omega), ⟨q, rfl⟩⟩
  by_cases hd5 : x.Count * x.Step ≤ 360000
  rotate_left
  · have HR := hide (show x.okB = false by simp [RingD.okB, h0, h1, h2, h3, h4, hd5])
    go_enter Tryz.func77, Tryz.ntmps77
    go_wp2
    refine wp_region_x (by kernel_rfl) (by kernel_rfl) ?_
    repeat (go_big_quiet_step ((first | (go_at_call 87; with_reducible exact call_q (cb (c_in x.Radius 500 30000 _) h0)) | (go_at_call 87; with_reducible exact call_q (cb (c_in x.Count 1 60 _) h1)) | (go_at_call 110; with_reducible exact call_q (cb (c_angle x.From _) h2)) | (go_at_call 87; with_reducible exact call_q (cb (c_in x.Step 1000 90000 _) h3)) | (go_at_call 87; with_reducible exact call_q (cb (c_in x.Price 0 10000 _) h4)))))
    refine wpQuiet_nil ?_
    rintro _ ⟨q, rfl⟩
    go_wp2
    go_ret
    exact ⟨by rw [HR.out]; first | rfl | exact congrArg (fun b => Ending.returned (Value.bool b)) (by simp; omega), ⟨q, rfl⟩⟩
  have HR := hide (show x.okB = true by simp [RingD.okB, h0, h1, h2, h3, h4, hd5])
  go_enter Tryz.func77, Tryz.ntmps77
  go_wp2
  refine wp_region_x (by kernel_rfl) (by kernel_rfl) ?_
  repeat (go_big_quiet_step ((first | (go_at_call 87; with_reducible exact call_q (cb (c_in x.Radius 500 30000 _) h0)) | (go_at_call 87; with_reducible exact call_q (cb (c_in x.Count 1 60 _) h1)) | (go_at_call 110; with_reducible exact call_q (cb (c_angle x.From _) h2)) | (go_at_call 87; with_reducible exact call_q (cb (c_in x.Step 1000 90000 _) h3)) | (go_at_call 87; with_reducible exact call_q (cb (c_in x.Price 0 10000 _) h4)))))
  refine wpQuiet_nil ?_
  rintro _ ⟨q, rfl⟩
  go_wp2
  go_ret
  exact ⟨by rw [HR.out]; first | rfl | exact congrArg (fun b => Ending.returned (Value.bool b)) (by simp; omega), ⟨q, rfl⟩⟩

set_option maxHeartbeats 1600000 in
theorem c_l23Ok (A : Option Addr) (c : Nat) (xs : List RingD) (w : World) (hn : xs.length ≤ 1099511627776) (hw : ∀ x ∈ xs, x.wf) (hA : Rd RingD.cells 5 w A xs) :
    Calls Tryz.prog 42 #[.slice A xs.length c] w fun e w' => e = .returned (.bool (ringsB xs)) ∧ IsX w w' := by
  obtain ⟨n, hnn⟩ : ∃ n, n = xs.length := ⟨_, rfl⟩
  have HN := hide hnn
  rw [← hnn] at hn ⊢
  clear hnn
  have HW := hide hw
  clear hw
  have hA0 := hA
  go_enter Tryz.func42, Tryz.ntmps42
  go_wp2
  go_loopw [3] (fun i wr => ∃ k : Nat, k ≤ n ∧ i = .int .i64 k ∧ (∀ i, i < k → goodAt RingD.okB RingD.geB xs i = true) ∧ IsX w wr) (fun i _ => n - (intOf i).toNat)
  case atStart => exact ⟨0, Nat.zero_le _, rfl, fun i hi => absurd hi (by omega), IsX.refl _⟩
  case round =>
    obtain ⟨k, hk, rfl, hall, p, rfl⟩ := hrel
    have HA := hide hall
    clear hall
    by_cases hlt : k < n
    · have hltx : k < xs.length := HN.out ▸ hlt
      clear hA0
      obtain ⟨b, off, rfl, hb, c0, c1, c2, c3, c4⟩ := RingD.rd hA (show xs[k]? = some xs[k] from List.getElem?_eq_getElem _)
      cases hok : xs[k].okB
      · have HR := hide (show ringsB xs = false by simp [ringsB, bad_ok hok])
        clear hA
        go_wp2
        refine wp_region_x (by kernel_rfl) (by kernel_rfl) ?_
        repeat (go_big_quiet_step ((go_at_call 77; exact call_x (c_l23One xs[k] b (off + k * 5) _ (Nat.lt_of_lt_of_le hb (IsX.size (IsX.xt ⟨p, rfl⟩ _))) (keep (IsX.xt ⟨p, rfl⟩ _) hb c0) (keep (IsX.xt ⟨p, rfl⟩ _) hb c1) (keep (IsX.xt ⟨p, rfl⟩ _) hb c2) (keep (IsX.xt ⟨p, rfl⟩ _) hb c3) (keep (IsX.xt ⟨p, rfl⟩ _) hb c4)))))
        refine wpQuiet_nil ?_
        rintro _ ⟨q, rfl⟩
        go_wp2
        go_ret
        exact ⟨by rw [HR.out]; rfl, IsX.xt ⟨p, rfl⟩ q⟩
      · have HO := hide hok
        cases k with
        | zero =>
          clear hA
          rw [show (((0 : Nat) : Int)) = 0 from rfl]
          simp only [Nat.zero_mul, Nat.add_zero] at c0 c1 c2 c3 c4
          go_wp2
          refine wp_region_x (by kernel_rfl) (by kernel_rfl) ?_
          repeat (go_big_quiet_step ((go_at_call 77; exact call_x (c_l23One xs[0] b (off) _ (Nat.lt_of_lt_of_le hb (IsX.size (IsX.xt ⟨p, rfl⟩ _))) (keep (IsX.xt ⟨p, rfl⟩ _) hb c0) (keep (IsX.xt ⟨p, rfl⟩ _) hb c1) (keep (IsX.xt ⟨p, rfl⟩ _) hb c2) (keep (IsX.xt ⟨p, rfl⟩ _) hb c3) (keep (IsX.xt ⟨p, rfl⟩ _) hb c4)))))
          refine wpQuiet_nil ?_
          rintro _ ⟨q, rfl⟩
          go_wp2
          go_roundw
          case rel => exact ⟨1, by omega, by go_num, good_step HA.out (good_zero HO.out), IsX.xt ⟨p, rfl⟩ q⟩
          case measure => simp [intOf]; omega
        | succ j =>
          obtain ⟨b', off', e, hb', d0, d1, d2, d3, d4⟩ := RingD.rd hA (show xs[j]? = some xs[j] from List.getElem?_eq_getElem _)
          injection e with e
          injection e with e1 e2
          subst e1 e2
          clear hA
          rw [show (((j + 1 : Nat) : Int)) = (j : Int) + 1 from rfl]
          by_cases hge : xs[j + 1].Radius ≤ xs[j].Radius
          · have HR := hide (show ringsB xs = false by simp [ringsB, bad_ge (ge := RingD.geB) (ok := RingD.okB) (i := j) (h := hltx) (by simp [RingD.geB, hge])])
            go_wp2
            refine wp_region_x (by kernel_rfl) (by kernel_rfl) ?_
            repeat (go_big_quiet_step ((go_at_call 77; exact call_x (c_l23One xs[j + 1] b (off + (j + 1) * 5) _ (Nat.lt_of_lt_of_le hb (IsX.size (IsX.xt ⟨p, rfl⟩ _))) (keep (IsX.xt ⟨p, rfl⟩ _) hb c0) (keep (IsX.xt ⟨p, rfl⟩ _) hb c1) (keep (IsX.xt ⟨p, rfl⟩ _) hb c2) (keep (IsX.xt ⟨p, rfl⟩ _) hb c3) (keep (IsX.xt ⟨p, rfl⟩ _) hb c4)))))
            refine wpQuiet_nil ?_
            rintro _ ⟨q, rfl⟩
            go_wp2
            go_ret
            exact ⟨by rw [HR.out]; rfl, IsX.xt ⟨p, rfl⟩ q⟩
          · have HG := hide hge
            go_wp2
            refine wp_region_x (by kernel_rfl) (by kernel_rfl) ?_
            repeat (go_big_quiet_step ((go_at_call 77; exact call_x (c_l23One xs[j + 1] b (off + (j + 1) * 5) _ (Nat.lt_of_lt_of_le hb (IsX.size (IsX.xt ⟨p, rfl⟩ _))) (keep (IsX.xt ⟨p, rfl⟩ _) hb c0) (keep (IsX.xt ⟨p, rfl⟩ _) hb c1) (keep (IsX.xt ⟨p, rfl⟩ _) hb c2) (keep (IsX.xt ⟨p, rfl⟩ _) hb c3) (keep (IsX.xt ⟨p, rfl⟩ _) hb c4)))))
            refine wpQuiet_nil ?_
            rintro _ ⟨q, rfl⟩
            go_wp2
            go_roundw
            case rel => exact ⟨j + 1 + 1, by omega, by go_num, good_step HA.out (good_succ HO.out (by simp only [RingD.geB]; exact decide_eq_false (by have := HG.out; omega))), IsX.xt ⟨p, rfl⟩ q⟩
            case measure => simp [intOf]; omega
    · obtain rfl : k = n := by omega
      have HG := hide (all_good (ok := RingD.okB) (ge := RingD.geB) (xs := xs) (fun i hi => HA.out i (by rw [HN.out]; exact hi)))
      have HC := hide (show ∀ x ∈ xs, 0 ≤ x.Count ∧ x.Count ≤ 1048576 from fun x hx => by
        have h1 := allGood_ok HG.out x hx
        simp only [RingD.okB, Bool.and_eq_true] at h1
        have h2 := inB_true.1 h1.1.1.1.1.2
        omega)
      by_cases hlen : 6 < k
      · have HR := hide (show ringsB xs = false by rw [ringsB, decide_eq_false (by rw [← HN.out]; omega)]; simp)
        go_wp2
        go_ret
        exact ⟨by rw [HR.out]; rfl, ⟨p, rfl⟩⟩
      have HL := hide HN.out
      go_wp2_with (go_at_call 43; rw [show k = xs.length from HL.out]; refine (c_l23All A _ xs _ (by rw [← HN.out]; exact hn) HC.out (hA0.x ⟨p, rfl⟩)).mono ?_; rintro e w1 ⟨rfl, hx1⟩)
      go_ret
      refine ⟨?_, IsX.trans ⟨p, rfl⟩ hx1⟩
      show Ending.returned (Value.bool _) = _
      rw [ringsB, HG.out, decide_eq_true (show xs.length ≤ 6 by have := HN.out; omega)]
      simp

set_option maxHeartbeats 1600000 in
theorem c_ValidRings (A : Option Addr) (c : Nat) (xs : List RingD) (w : World) (hn : xs.length ≤ 1099511627776) (hw : ∀ x ∈ xs, x.wf) (hA : Rd RingD.cells 5 w A xs) :
    Calls Tryz.prog 30 #[.slice A xs.length c] w fun e w' => e = .returned (.bool (ringsB xs)) ∧ IsX w w' := by
  by_cases hlen : 6 < xs.length
  · have HR := hide (show ringsB xs = false by rw [ringsB, decide_eq_false (by omega)]; simp)
    generalize xs.length = n at hn hlen ⊢
    go_enter Tryz.func30, Tryz.ntmps30
    go_wp2
    go_ret
    exact ⟨by rw [HR.out]; rfl, IsX.refl _⟩
  obtain ⟨n, hnn⟩ : ∃ n, n = xs.length := ⟨_, rfl⟩
  have HN := hide hnn
  rw [← hnn] at hn hlen ⊢
  clear hnn
  have HW := hide hw
  clear hw
  have hA0 := hA
  go_enter Tryz.func30, Tryz.ntmps30
  go_wp2
  go_loopw [10] (fun i wr => ∃ k : Nat, k ≤ n ∧ i = .int .i64 k ∧ (∀ i, i < k → goodAt RingD.okB RingD.geB xs i = true) ∧ IsX w wr) (fun i _ => n - (intOf i).toNat)
  case atStart => exact ⟨0, Nat.zero_le _, rfl, fun i hi => absurd hi (by omega), IsX.refl _⟩
  case round =>
    obtain ⟨k, hk, rfl, hall, p, rfl⟩ := hrel
    have HA := hide hall
    clear hall
    by_cases hlt : k < n
    · have hltx : k < xs.length := HN.out ▸ hlt
      clear hA0
      obtain ⟨b, off, rfl, hb, c0, c1, c2, c3, c4⟩ := RingD.rd hA (show xs[k]? = some xs[k] from List.getElem?_eq_getElem _)
      cases hok : xs[k].okB
      · have HR := hide (show ringsB xs = false by simp [ringsB, bad_ok hok])
        clear hA
        go_wp2
        refine wp_region_x (by kernel_rfl) (by kernel_rfl) ?_
        repeat (go_big_quiet_step ((go_at_call 40; exact call_x (c_validRing xs[k] _))))
        refine wpQuiet_nil ?_
        rintro _ ⟨q, rfl⟩
        go_wp2
        go_ret
        exact ⟨by rw [HR.out]; rfl, IsX.xt (IsX.alloc ⟨p, rfl⟩ _) q⟩
      · have HO := hide hok
        cases k with
        | zero =>
          clear hA
          rw [show (((0 : Nat) : Int)) = 0 from rfl]
          simp only [Nat.zero_mul, Nat.add_zero] at c0 c1 c2 c3 c4
          go_wp2
          refine wp_region_x (by kernel_rfl) (by kernel_rfl) ?_
          repeat (go_big_quiet_step ((go_at_call 40; exact call_x (c_validRing xs[0] _))))
          refine wpQuiet_nil ?_
          rintro _ ⟨q, rfl⟩
          go_wp2
          go_roundw
          case rel => exact ⟨1, by omega, by go_num, good_step HA.out (good_zero HO.out), IsX.xt (IsX.alloc ⟨p, rfl⟩ _) q⟩
          case measure => simp [intOf]; omega
        | succ j =>
          obtain ⟨b', off', e, hb', d0, d1, d2, d3, d4⟩ := RingD.rd hA (show xs[j]? = some xs[j] from List.getElem?_eq_getElem _)
          injection e with e
          injection e with e1 e2
          subst e1 e2
          clear hA
          rw [show (((j + 1 : Nat) : Int)) = (j : Int) + 1 from rfl]
          by_cases hge : xs[j + 1].Radius ≤ xs[j].Radius
          · have HR := hide (show ringsB xs = false by simp [ringsB, bad_ge (ge := RingD.geB) (ok := RingD.okB) (i := j) (h := hltx) (by simp [RingD.geB, hge])])
            go_wp2
            refine wp_region_x (by kernel_rfl) (by kernel_rfl) ?_
            repeat (go_big_quiet_step ((go_at_call 40; exact call_x (c_validRing xs[j + 1] _))))
            refine wpQuiet_nil ?_
            rintro _ ⟨q, rfl⟩
            go_wp2
            go_ret
            exact ⟨by rw [HR.out]; rfl, IsX.xt (IsX.alloc ⟨p, rfl⟩ _) q⟩
          · have HG := hide hge
            go_wp2
            refine wp_region_x (by kernel_rfl) (by kernel_rfl) ?_
            repeat (go_big_quiet_step ((go_at_call 40; exact call_x (c_validRing xs[j + 1] _))))
            refine wpQuiet_nil ?_
            rintro _ ⟨q, rfl⟩
            go_wp2
            go_roundw
            case rel => exact ⟨j + 1 + 1, by omega, by go_num, good_step HA.out (good_succ HO.out (by simp only [RingD.geB]; exact decide_eq_false (by have := HG.out; omega))), IsX.xt (IsX.alloc ⟨p, rfl⟩ _) q⟩
            case measure => simp [intOf]; omega
    · obtain rfl : k = n := by omega
      have HG := hide (all_good (ok := RingD.okB) (ge := RingD.geB) (xs := xs) (fun i hi => HA.out i (by rw [HN.out]; exact hi)))
      have HC := hide (show ∀ x ∈ xs, 0 ≤ x.Count ∧ x.Count ≤ 1048576 from fun x hx => by
        have h1 := allGood_ok HG.out x hx
        simp only [RingD.okB, Bool.and_eq_true] at h1
        have h2 := inB_true.1 h1.1.1.1.1.2
        omega)
      have HL := hide HN.out
      go_wp2_with (go_at_call 31; rw [show k = xs.length from HL.out]; refine (c_seatCount A _ xs _ (by rw [← HN.out]; exact hn) HC.out (hA0.x ⟨p, rfl⟩)).mono ?_; rintro e w1 ⟨rfl, hx1⟩)
      go_ret
      refine ⟨?_, IsX.trans ⟨p, rfl⟩ hx1⟩
      show Ending.returned (Value.bool _) = _
      rw [ringsB, HG.out, decide_eq_true (show xs.length ≤ 6 by have := HN.out; omega)]
      simp

end Go.Proofs.YtfcfgkkkepifhaaGreatDoor
