/- Lists of Ring: what the validity tests of the reference and of the program compute, and sums. Conditions: strings no longer than 2^63 - 1 bytes, lists no longer than 2^40. -/
import Derived.Test.YtpdfebalkkbpoaaDoorFlatRing
import Derived.Test.YtpdfebalkkbpoaaDoorNames
import Derived.Test.YtpdfebalkkbpoaaDoorLists
namespace Go.Proofs.YtpdfebalkkbpoaaDoor
set_option linter.unusedVariables false
open Go.RowKit

def RingD.okB (x : RingD) : Bool := inB x.Radius 500 30000 && inB x.Count 1 60 && inB x.From 0 359999 && inB x.Step 1000 90000 && inB x.Price 0 10000 && decide (x.Count * x.Step ≤ 360000)
def RingD.geB (x y : RingD) : Bool := decide (y.Radius ≤ x.Radius)
def sumCount (xs : List RingD) : Int := (xs.map (·.Count)).sum
theorem sumCount_take (xs : List RingD) (k : Nat) (h : k < xs.length) : sumCount (xs.take (k + 1)) = sumCount (xs.take k) + xs[k].Count := by
  simp only [sumCount, List.take_succ_eq_append_getElem h, List.map_append, List.sum_append, List.map_cons, List.map_nil, List.sum_cons, List.sum_nil, Int.add_zero]
theorem sumCount_bd (m : Int) (hm : 0 ≤ m) : ∀ (xs : List RingD), (∀ x ∈ xs, 0 ≤ x.Count ∧ x.Count ≤ m) → 0 ≤ sumCount xs ∧ sumCount xs ≤ xs.length * m
  | [], _ => by simp [sumCount]
  | x :: xs, h => by
    have h1 := sumCount_bd m hm xs (fun y hy => h y (List.mem_cons_of_mem _ hy))
    have h2 := h x List.mem_cons_self
    have e : sumCount (x :: xs) = x.Count + sumCount xs := by simp [sumCount]
    have e2 : (((x :: xs).length : Nat) : Int) * m = m + xs.length * m := by
      simp only [List.length_cons, Int.natCast_add, Int.natCast_one, Int.add_mul, Int.one_mul]; omega
    omega
def ringsB (xs : List RingD) : Bool := decide (xs.length ≤ 6) && allGood RingD.okB RingD.geB xs && decide (sumCount xs ≤ 120)

set_option maxHeartbeats 800000 in
theorem c_validRing (x : RingD) (w : World) :
    Calls Tryd.prog 14 #[.agg #[.int .i64 x.Radius, .int .i64 x.Count, .int .i64 x.From, .int .i64 x.Step, .int .i64 x.Price]] w fun e w' => e = .returned (.bool x.okB) ∧ IsX w w' := by
  cases h0 : inB x.Radius 500 30000
  · have HR := hide (show x.okB = false by simp [RingD.okB, h0])
    go_enter Tryd.func14, Tryd.ntmps14
    go_wp2_with (first | (go_at_call 25; refine (c_within _ _ _ _).mono ?_; rintro e w' ⟨rfl, rfl⟩))
    go_ret
    exact ⟨by rw [HR.out]; first | rfl | exact congrArg (fun b => Ending.returned (Value.bool b)) (by simp; omega), (IsX.refl _).alloc _⟩
  cases h1 : inB x.Count 1 60
  · have HR := hide (show x.okB = false by simp [RingD.okB, h0, h1])
    go_enter Tryd.func14, Tryd.ntmps14
    go_wp2_with (first | (go_at_call 25; refine (c_within _ _ _ _).mono ?_; rintro e w' ⟨rfl, rfl⟩))
    go_ret
    exact ⟨by rw [HR.out]; first | rfl | exact congrArg (fun b => Ending.returned (Value.bool b)) (by simp; omega), (IsX.refl _).alloc _⟩
  obtain ⟨bc0, bc1⟩ := inB_true.1 h1
  cases h2 : inB x.From 0 359999
  · have HR := hide (show x.okB = false by simp [RingD.okB, h0, h1, h2])
    go_enter Tryd.func14, Tryd.ntmps14
    go_wp2_with (first | (go_at_call 25; refine (c_within _ _ _ _).mono ?_; rintro e w' ⟨rfl, rfl⟩))
    go_ret
    exact ⟨by rw [HR.out]; first | rfl | exact congrArg (fun b => Ending.returned (Value.bool b)) (by simp; omega), (IsX.refl _).alloc _⟩
  cases h3 : inB x.Step 1000 90000
  · have HR := hide (show x.okB = false by simp [RingD.okB, h0, h1, h2, h3])
    go_enter Tryd.func14, Tryd.ntmps14
    go_wp2_with (first | (go_at_call 25; refine (c_within _ _ _ _).mono ?_; rintro e w' ⟨rfl, rfl⟩))
    go_ret
    exact ⟨by rw [HR.out]; first | rfl | exact congrArg (fun b => Ending.returned (Value.bool b)) (by simp; omega), (IsX.refl _).alloc _⟩
  obtain ⟨bt0, bt1⟩ := inB_true.1 h3
  have bm0 : 0 ≤ x.Count * x.Step := Int.mul_nonneg (by omega) (by omega)
  have bm1 : x.Count * x.Step ≤ 60 * 90000 := Int.mul_le_mul bc1 bt1 (by omega) (by omega)
  cases h4 : inB x.Price 0 10000
  · have HR := hide (show x.okB = false by simp [RingD.okB, h0, h1, h2, h3, h4])
    go_enter Tryd.func14, Tryd.ntmps14
    go_wp2_with (first | (go_at_call 25; refine (c_within _ _ _ _).mono ?_; rintro e w' ⟨rfl, rfl⟩))
    go_ret
    exact ⟨by rw [HR.out]; first | rfl | exact congrArg (fun b => Ending.returned (Value.bool b)) (by simp; omega), (IsX.refl _).alloc _⟩
  by_cases hd5 : x.Count * x.Step ≤ 360000
  rotate_left
  · have HR := hide (show x.okB = false by simp [RingD.okB, h0, h1, h2, h3, h4, hd5])
    go_enter Tryd.func14, Tryd.ntmps14
    go_wp2_with (first | (go_at_call 25; refine (c_within _ _ _ _).mono ?_; rintro e w' ⟨rfl, rfl⟩))
    go_ret
    exact ⟨by rw [HR.out]; first | rfl | exact congrArg (fun b => Ending.returned (Value.bool b)) (by simp; omega), (IsX.refl _).alloc _⟩
  have HR := hide (show x.okB = true by simp [RingD.okB, h0, h1, h2, h3, h4, hd5])
  go_enter Tryd.func14, Tryd.ntmps14
  go_wp2_with (first | (go_at_call 25; refine (c_within _ _ _ _).mono ?_; rintro e w' ⟨rfl, rfl⟩))
  go_ret
  exact ⟨by rw [HR.out]; first | rfl | exact congrArg (fun b => Ending.returned (Value.bool b)) (by simp; omega), (IsX.refl _).alloc _⟩

set_option maxHeartbeats 1600000 in
theorem c_l23One (x : RingD) (b off : Nat) (w : World) (hb : b < w.heap.size) (c0 : w.cell? ⟨b, off, none⟩ = some (.int .i64 x.Radius)) (c1 : w.cell? ⟨b, off + 1, none⟩ = some (.int .i64 x.Count)) (c2 : w.cell? ⟨b, off + 2, none⟩ = some (.int .i64 x.From)) (c3 : w.cell? ⟨b, off + 3, none⟩ = some (.int .i64 x.Step)) (c4 : w.cell? ⟨b, off + 4, none⟩ = some (.int .i64 x.Price)) :
    Calls Tryd.prog 12 #[.pointer (some ⟨b, off, none⟩)] w fun e w' => e = .returned (.bool x.okB) ∧ IsX w w' := by
  cases h0 : inB x.Radius 500 30000
  · have HR := hide (show x.okB = false by simp [RingD.okB, h0])
    go_enter Tryd.func12, Tryd.ntmps12
    go_wp2
    refine wp_region_x (by kernel_rfl) (by kernel_rfl) ?_
    repeat (go_big_quiet_step ((first | (go_at_call 21; with_reducible exact call_q (cb (c_in x.Radius 500 30000 _) h0)))))
    refine wpQuiet_nil ?_
    rintro _ ⟨q, rfl⟩
    go_wp2
    go_ret
    exact ⟨by rw [HR.out]; first | rfl | exact congrArg (fun b => Ending.returned (Value.bool b)) (by simp; omega), ⟨q, rfl⟩⟩
  cases h1 : inB x.Count 1 60
  · have HR := hide (show x.okB = false by simp [RingD.okB, h0, h1])
    go_enter Tryd.func12, Tryd.ntmps12
    go_wp2
    refine wp_region_x (by kernel_rfl) (by kernel_rfl) ?_
    repeat (go_big_quiet_step ((first | (go_at_call 21; with_reducible exact call_q (cb (c_in x.Radius 500 30000 _) h0)) | (go_at_call 21; with_reducible exact call_q (cb (c_in x.Count 1 60 _) h1)))))
    refine wpQuiet_nil ?_
    rintro _ ⟨q, rfl⟩
    go_wp2
    go_ret
    exact ⟨by rw [HR.out]; first | rfl | exact congrArg (fun b => Ending.returned (Value.bool b)) (by simp; omega), ⟨q, rfl⟩⟩
  obtain ⟨bc0, bc1⟩ := inB_true.1 h1
  cases h2 : inB x.From 0 359999
  · have HR := hide (show x.okB = false by simp [RingD.okB, h0, h1, h2])
    go_enter Tryd.func12, Tryd.ntmps12
    go_wp2
    refine wp_region_x (by kernel_rfl) (by kernel_rfl) ?_
    repeat (go_big_quiet_step ((first | (go_at_call 21; with_reducible exact call_q (cb (c_in x.Radius 500 30000 _) h0)) | (go_at_call 21; with_reducible exact call_q (cb (c_in x.Count 1 60 _) h1)) | (go_at_call 22; with_reducible exact call_q (cb (c_angle x.From _) h2)))))
    refine wpQuiet_nil ?_
    rintro _ ⟨q, rfl⟩
    go_wp2
    go_ret
    exact ⟨by rw [HR.out]; first | rfl | exact congrArg (fun b => Ending.returned (Value.bool b)) (by simp; omega), ⟨q, rfl⟩⟩
  cases h3 : inB x.Step 1000 90000
  · have HR := hide (show x.okB = false by simp [RingD.okB, h0, h1, h2, h3])
    go_enter Tryd.func12, Tryd.ntmps12
    go_wp2
    refine wp_region_x (by kernel_rfl) (by kernel_rfl) ?_
    repeat (go_big_quiet_step ((first | (go_at_call 21; with_reducible exact call_q (cb (c_in x.Radius 500 30000 _) h0)) | (go_at_call 21; with_reducible exact call_q (cb (c_in x.Count 1 60 _) h1)) | (go_at_call 22; with_reducible exact call_q (cb (c_angle x.From _) h2)) | (go_at_call 21; with_reducible exact call_q (cb (c_in x.Step 1000 90000 _) h3)))))
    refine wpQuiet_nil ?_
    rintro _ ⟨q, rfl⟩
    go_wp2
    go_ret
    exact ⟨by rw [HR.out]; first | rfl | exact congrArg (fun b => Ending.returned (Value.bool b)) (by simp; omega), ⟨q, rfl⟩⟩
  obtain ⟨bt0, bt1⟩ := inB_true.1 h3
  have bm0 : 0 ≤ x.Count * x.Step := Int.mul_nonneg (by omega) (by omega)
  have bm1 : x.Count * x.Step ≤ 60 * 90000 := Int.mul_le_mul bc1 bt1 (by omega) (by omega)
  cases h4 : inB x.Price 0 10000
  · have HR := hide (show x.okB = false by simp [RingD.okB, h0, h1, h2, h3, h4])
    go_enter Tryd.func12, Tryd.ntmps12
    go_wp2
    refine wp_region_x (by kernel_rfl) (by kernel_rfl) ?_
    repeat (go_big_quiet_step ((first | (go_at_call 21; with_reducible exact call_q (cb (c_in x.Radius 500 30000 _) h0)) | (go_at_call 21; with_reducible exact call_q (cb (c_in x.Count 1 60 _) h1)) | (go_at_call 22; with_reducible exact call_q (cb (c_angle x.From _) h2)) | (go_at_call 21; with_reducible exact call_q (cb (c_in x.Step 1000 90000 _) h3)) | (go_at_call 21; with_reducible exact call_q (cb (c_in x.Price 0 10000 _) h4)))))
    refine wpQuiet_nil ?_
    rintro _ ⟨q, rfl⟩
    go_wp2
    go_ret
    exact ⟨by rw [HR.out]; first | rfl | exact congrArg (fun b => Ending.returned (Value.bool b)) (by simp; omega), ⟨q, rfl⟩⟩
  by_cases hd5 : x.Count * x.Step ≤ 360000
  rotate_left
  · have HR := hide (show x.okB = false by simp [RingD.okB, h0, h1, h2, h3, h4, hd5])
    go_enter Tryd.func12, Tryd.ntmps12
    go_wp2
    refine wp_region_x (by kernel_rfl) (by kernel_rfl) ?_
    repeat (go_big_quiet_step ((first | (go_at_call 21; with_reducible exact call_q (cb (c_in x.Radius 500 30000 _) h0)) | (go_at_call 21; with_reducible exact call_q (cb (c_in x.Count 1 60 _) h1)) | (go_at_call 22; with_reducible exact call_q (cb (c_angle x.From _) h2)) | (go_at_call 21; with_reducible exact call_q (cb (c_in x.Step 1000 90000 _) h3)) | (go_at_call 21; with_reducible exact call_q (cb (c_in x.Price 0 10000 _) h4)))))
    refine wpQuiet_nil ?_
    rintro _ ⟨q, rfl⟩
    go_wp2
    go_ret
    exact ⟨by rw [HR.out]; first | rfl | exact congrArg (fun b => Ending.returned (Value.bool b)) (by simp; omega), ⟨q, rfl⟩⟩
  have HR := hide (show x.okB = true by simp [RingD.okB, h0, h1, h2, h3, h4, hd5])
  go_enter Tryd.func12, Tryd.ntmps12
  go_wp2
  refine wp_region_x (by kernel_rfl) (by kernel_rfl) ?_
  repeat (go_big_quiet_step ((first | (go_at_call 21; with_reducible exact call_q (cb (c_in x.Radius 500 30000 _) h0)) | (go_at_call 21; with_reducible exact call_q (cb (c_in x.Count 1 60 _) h1)) | (go_at_call 22; with_reducible exact call_q (cb (c_angle x.From _) h2)) | (go_at_call 21; with_reducible exact call_q (cb (c_in x.Step 1000 90000 _) h3)) | (go_at_call 21; with_reducible exact call_q (cb (c_in x.Price 0 10000 _) h4)))))
  refine wpQuiet_nil ?_
  rintro _ ⟨q, rfl⟩
  go_wp2
  go_ret
  exact ⟨by rw [HR.out]; first | rfl | exact congrArg (fun b => Ending.returned (Value.bool b)) (by simp; omega), ⟨q, rfl⟩⟩

end Go.Proofs.YtpdfebalkkbpoaaDoor
