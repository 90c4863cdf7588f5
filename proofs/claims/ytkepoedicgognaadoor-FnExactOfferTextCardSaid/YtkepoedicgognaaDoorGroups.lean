/- Lists of Group: what the validity tests of the reference and of the program compute, and sums. Conditions: strings no longer than 2^63 - 1 bytes, lists no longer than 2^40. -/
import Derived.Test.YtkepoedicgognaaDoorFlatGroup
import Derived.Test.YtkepoedicgognaaDoorNames
import Derived.Test.YtkepoedicgognaaDoorLists
namespace Go.Proofs.YtkepoedicgognaaDoor
set_option linter.unusedVariables false
open Go.RowKit

def GroupD.okB (x : GroupD) : Bool := nameB x.Name && inB x.Persons 1 40 && inB x.Wish (-1) 9
def GroupD.geB (x y : GroupD) : Bool := !(Op.bytesLess x.Name.toList y.Name.toList)
def sumPersons (xs : List GroupD) : Int := (xs.map (·.Persons)).sum
theorem sumPersons_take (xs : List GroupD) (k : Nat) (h : k < xs.length) : sumPersons (xs.take (k + 1)) = sumPersons (xs.take k) + xs[k].Persons := by
  simp only [sumPersons, List.take_succ_eq_append_getElem h, List.map_append, List.sum_append, List.map_cons, List.map_nil, List.sum_cons, List.sum_nil, Int.add_zero]
theorem sumPersons_bd (m : Int) (hm : 0 ≤ m) : ∀ (xs : List GroupD), (∀ x ∈ xs, 0 ≤ x.Persons ∧ x.Persons ≤ m) → 0 ≤ sumPersons xs ∧ sumPersons xs ≤ xs.length * m
  | [], _ => by simp [sumPersons]
  | x :: xs, h => by
    have h1 := sumPersons_bd m hm xs (fun y hy => h y (List.mem_cons_of_mem _ hy))
    have h2 := h x List.mem_cons_self
    have e : sumPersons (x :: xs) = x.Persons + sumPersons xs := by simp [sumPersons]
    have e2 : (((x :: xs).length : Nat) : Int) * m = m + xs.length * m := by
      simp only [List.length_cons, Int.natCast_add, Int.natCast_one, Int.add_mul, Int.one_mul]; omega
    omega
def groupsB (xs : List GroupD) : Bool := decide (xs.length ≤ 12) && allGood GroupD.okB GroupD.geB xs

set_option maxHeartbeats 800000 in
theorem c_validGroup (x : GroupD) (w : World) (hs0 : x.Name.size ≤ maxLen) :
    Calls Tryd.prog 37 #[.agg #[.string x.Name, .int .i64 x.Persons, .int .i64 x.Wish]] w fun e w' => e = .returned (.bool x.okB) ∧ IsX w w' := by
  cases h0 : nameB x.Name
  · have HR := hide (show x.okB = false by simp [GroupD.okB, h0])
    go_enter Tryd.func37, Tryd.ntmps37
    go_wp2_with (first | (go_at_call 65; (with_reducible refine (c_IsName x.Name _ hs0).mono ?_); rintro e w' ⟨rfl, rfl⟩) | (go_at_call 58; refine (c_within _ _ _ _).mono ?_; rintro e w' ⟨rfl, rfl⟩))
    go_ret
    exact ⟨by rw [HR.out]; first | rfl | exact congrArg (fun b => Ending.returned (Value.bool b)) (by simp; omega), (IsX.refl _).alloc _⟩
  cases h1 : inB x.Persons 1 40
  · have HR := hide (show x.okB = false by simp [GroupD.okB, h0, h1])
    go_enter Tryd.func37, Tryd.ntmps37
    go_wp2_with (first | (go_at_call 65; (with_reducible refine (c_IsName x.Name _ hs0).mono ?_); rintro e w' ⟨rfl, rfl⟩) | (go_at_call 58; refine (c_within _ _ _ _).mono ?_; rintro e w' ⟨rfl, rfl⟩))
    go_ret
    exact ⟨by rw [HR.out]; first | rfl | exact congrArg (fun b => Ending.returned (Value.bool b)) (by simp; omega), (IsX.refl _).alloc _⟩
  cases h2 : inB x.Wish (-1) 9
  · have HR := hide (show x.okB = false by simp [GroupD.okB, h0, h1, h2])
    go_enter Tryd.func37, Tryd.ntmps37
    go_wp2_with (first | (go_at_call 65; (with_reducible refine (c_IsName x.Name _ hs0).mono ?_); rintro e w' ⟨rfl, rfl⟩) | (go_at_call 58; refine (c_within _ _ _ _).mono ?_; rintro e w' ⟨rfl, rfl⟩))
    go_ret
    exact ⟨by rw [HR.out]; first | rfl | exact congrArg (fun b => Ending.returned (Value.bool b)) (by simp; omega), (IsX.refl _).alloc _⟩
  have HR := hide (show x.okB = true by simp [GroupD.okB, h0, h1, h2])
  go_enter Tryd.func37, Tryd.ntmps37
  go_wp2_with (first | (go_at_call 65; (with_reducible refine (c_IsName x.Name _ hs0).mono ?_); rintro e w' ⟨rfl, rfl⟩) | (go_at_call 58; refine (c_within _ _ _ _).mono ?_; rintro e w' ⟨rfl, rfl⟩))
  go_ret
  exact ⟨by rw [HR.out]; first | rfl | exact congrArg (fun b => Ending.returned (Value.bool b)) (by simp; omega), (IsX.refl _).alloc _⟩

set_option maxHeartbeats 800000 in
theorem c_l24One (x : GroupD) (b off : Nat) (w : World) (hs0 : x.Name.size ≤ maxLen) (c0 : w.cell? ⟨b, off, none⟩ = some (.string x.Name)) (c1 : w.cell? ⟨b, off + 1, none⟩ = some (.int .i64 x.Persons)) (c2 : w.cell? ⟨b, off + 2, none⟩ = some (.int .i64 x.Wish)) :
    Calls Tryd.prog 35 #[.pointer (some ⟨b, off, none⟩)] w fun e w' => e = .returned (.bool x.okB) ∧ w = w' := by
  cases h0 : nameB x.Name
  · have HR := hide (show x.okB = false by simp [GroupD.okB, h0])
    go_enter Tryd.func35, Tryd.ntmps35
    go_wp2_with (first | (go_at_call 63; (with_reducible refine (c_name x.Name _ hs0).mono ?_); rintro e w' ⟨rfl, rfl⟩) | (go_at_call 52; refine (c_in _ _ _ _).mono ?_; rintro e w' ⟨rfl, rfl⟩) | (go_at_call 67; refine (c_angle _ _).mono ?_; rintro e w' ⟨rfl, rfl⟩))
    go_ret
    exact ⟨by rw [HR.out]; first | rfl | exact congrArg (fun b => Ending.returned (Value.bool b)) (by simp; omega), rfl⟩
  cases h1 : inB x.Persons 1 40
  · have HR := hide (show x.okB = false by simp [GroupD.okB, h0, h1])
    go_enter Tryd.func35, Tryd.ntmps35
    go_wp2_with (first | (go_at_call 63; (with_reducible refine (c_name x.Name _ hs0).mono ?_); rintro e w' ⟨rfl, rfl⟩) | (go_at_call 52; refine (c_in _ _ _ _).mono ?_; rintro e w' ⟨rfl, rfl⟩) | (go_at_call 67; refine (c_angle _ _).mono ?_; rintro e w' ⟨rfl, rfl⟩))
    go_ret
    exact ⟨by rw [HR.out]; first | rfl | exact congrArg (fun b => Ending.returned (Value.bool b)) (by simp; omega), rfl⟩
  cases h2 : inB x.Wish (-1) 9
  · have HR := hide (show x.okB = false by simp [GroupD.okB, h0, h1, h2])
    go_enter Tryd.func35, Tryd.ntmps35
    go_wp2_with (first | (go_at_call 63; (with_reducible refine (c_name x.Name _ hs0).mono ?_); rintro e w' ⟨rfl, rfl⟩) | (go_at_call 52; refine (c_in _ _ _ _).mono ?_; rintro e w' ⟨rfl, rfl⟩) | (go_at_call 67; refine (c_angle _ _).mono ?_; rintro e w' ⟨rfl, rfl⟩))
    go_ret
    exact ⟨by rw [HR.out]; first | rfl | exact congrArg (fun b => Ending.returned (Value.bool b)) (by simp; omega), rfl⟩
  have HR := hide (show x.okB = true by simp [GroupD.okB, h0, h1, h2])
  go_enter Tryd.func35, Tryd.ntmps35
  go_wp2_with (first | (go_at_call 63; (with_reducible refine (c_name x.Name _ hs0).mono ?_); rintro e w' ⟨rfl, rfl⟩) | (go_at_call 52; refine (c_in _ _ _ _).mono ?_; rintro e w' ⟨rfl, rfl⟩) | (go_at_call 67; refine (c_angle _ _).mono ?_; rintro e w' ⟨rfl, rfl⟩))
  go_ret
  exact ⟨by rw [HR.out]; first | rfl | exact congrArg (fun b => Ending.returned (Value.bool b)) (by simp; omega), rfl⟩

end Go.Proofs.YtkepoedicgognaaDoor
