/- Lists of Group: what the validity tests of the reference and of the program compute, and sums. Conditions: strings no longer than 2^63 - 1 bytes, lists no longer than 2^40. -/
import Derived.Test.YteeafdbfimdddaaFlatGroup
import Derived.Test.YteeafdbfimdddaaNames
import Derived.Test.YteeafdbfimdddaaLists
namespace Go.Proofs.Yteeafdbfimdddaa
set_option linter.unusedVariables false
open Go.RowKit

def GroupD.okB (x : GroupD) : Bool := nameB x.Name && inB x.Persons 1 40 && inB x.Wish (-1) 9
def GroupD.geB (x y : GroupD) : Bool := !(Op.bytesLess x.Name.toList y.Name.toList)
def sumPersons (xs : List GroupD) : Int := (xs.map (·.Persons)).sum
theorem sumPersons_take (xs : List GroupD) (k : Nat) (h : k < xs.length) : sumPersons (xs.take (k + 1)) = sumPersons (xs.take k) + xs[k].Persons := by
  simp only [sumPersons, List.take_succ_eq_append_getElem h, List.map_append, List.sum_append, List.map_cons, List.map_nil, List.sum_cons, List.sum_nil, Int.add_zero]
theorem sumPersons_bd (m : Int) (hm : 0 ≤ m) : ∀ (xs : List GroupD), (∀ x ∈ xs, 0 ≤ x.Persons ∧ x.Persons ≤ m) → 0 ≤ sumPersons xs ∧ sumPersons xs ≤ xs.length * m
  | [], _ => by simp [sumPersons]
  | x :: xs, h => by
    have h1 := sumPersons_bd m hm xs (fun y hy => h y (List.mem_cons_of_mem _ hy))
    have h2 := h x List.mem_cons_self
    have e : sumPersons (x :: xs) = x.Persons + sumPersons xs := by simp [sumPersons]
    have e2 : (((x :: xs).length : Nat) : Int) * m = m + xs.length * m := by
      simp only [List.length_cons, Int.natCast_add, Int.natCast_one, Int.add_mul, Int.one_mul]; omega
    omega
def groupsB (xs : List GroupD) : Bool := decide (xs.length ≤ 12) && allGood GroupD.okB GroupD.geB xs

set_option maxHeartbeats 800000 in
theorem c_validGroup (x : GroupD) (w : World) (hs0 : x.Name.size ≤ maxLen) :
    Calls Try.prog 122 #[.agg #[.string x.Name, .int .i64 x.Persons, .int .i64 x.Wish]] w fun e w' => e = .returned (.bool x.okB) ∧ IsX w w' := by
  cases h0 : nameB x.Name
  · have HR := hide (show x.okB = false by simp [GroupD.okB, h0])
    go_enter Try.func122, Try.ntmps122
    go_wp2_with (first | (go_at_call 139; (with_reducible refine (c_IsName x.Name _ hs0).mono ?_); rintro e w' ⟨rfl, rfl⟩) | (go_at_call 117; refine (c_within _ _ _ _).mono ?_; rintro e w' ⟨rfl, rfl⟩))
    go_ret
    exact ⟨by rw [HR.out]; first | rfl | exact congrArg (fun b => Ending.returned (Value.bool b)) (by simp; omega), (IsX.refl _).alloc _⟩
  cases h1 : inB x.Persons 1 40
  · have HR := hide (show x.okB = false by simp [GroupD.okB, h0, h1])
    go_enter Try.func122, Try.ntmps122
    go_wp2_with (first | (go_at_call 139; (with_reducible refine (c_IsName x.Name _ hs0).mono ?_); rintro e w' ⟨rfl, rfl⟩) | (go_at_call 117; refine (c_within _ _ _ _).mono ?_; rintro e w' ⟨rfl, rfl⟩))
    go_ret
    exact ⟨by rw [HR.out]; first | rfl | exact congrArg (fun b => Ending.returned (Value.bool b)) (by simp; omega), (IsX.refl _).alloc _⟩
  cases h2 : inB x.Wish (-1) 9
  · have HR := hide (show x.okB = false by simp [GroupD.okB, h0, h1, h2])
    go_enter Try.func122, Try.ntmps122
    go_wp2_with (first | (go_at_call 139; (with_reducible refine (c_IsName x.Name _ hs0).mono ?_); rintro e w' ⟨rfl, rfl⟩) | (go_at_call 117; refine (c_within _ _ _ _).mono ?_; rintro e w' ⟨rfl, rfl⟩))
    go_ret
    exact ⟨by rw [HR.out]; first | rfl | exact congrArg (fun b => Ending.returned (Value.bool b)) (by simp; omega), (IsX.refl _).alloc _⟩
  have HR := hide (show x.okB = true by simp [GroupD.okB, h0, h1, h2])
  go_enter Try.func122, Try.ntmps122
  go_wp2_with (first | (go_at_call 139; (with_reducible refine (c_IsName x.Name _ hs0).mono ?_); rintro e w' ⟨rfl, rfl⟩) | (go_at_call 117; refine (c_within _ _ _ _).mono ?_; rintro e w' ⟨rfl, rfl⟩))
  go_ret
  exact ⟨by rw [HR.out]; first | rfl | exact congrArg (fun b => Ending.returned (Value.bool b)) (by simp; omega), (IsX.refl _).alloc _⟩

set_option maxHeartbeats 800000 in
theorem c_l24One (x : GroupD) (b off : Nat) (w : World) (hs0 : x.Name.size ≤ maxLen) (c0 : w.cell? ⟨b, off, none⟩ = some (.string x.Name)) (c1 : w.cell? ⟨b, off + 1, none⟩ = some (.int .i64 x.Persons)) (c2 : w.cell? ⟨b, off + 2, none⟩ = some (.int .i64 x.Wish)) :
    Calls Try.prog 119 #[.pointer (some ⟨b, off, none⟩)] w fun e w' => e = .returned (.bool x.okB) ∧ w = w' := by
  cases h0 : nameB x.Name
  · have HR := hide (show x.okB = false by simp [GroupD.okB, h0])
    go_enter Try.func119, Try.ntmps119
    go_wp2_with (first | (go_at_call 140; (with_reducible refine (c_name x.Name _ hs0).mono ?_); rintro e w' ⟨rfl, rfl⟩) | (go_at_call 120; refine (c_in _ _ _ _).mono ?_; rintro e w' ⟨rfl, rfl⟩) | (go_at_call 155; refine (c_angle _ _).mono ?_; rintro e w' ⟨rfl, rfl⟩))
    go_ret
    exact ⟨by rw [HR.out]; first | rfl | exact congrArg (fun b => Ending.returned (Value.bool b)) (by simp; omega), rfl⟩
  cases h1 : inB x.Persons 1 40
  · have HR := hide (show x.okB = false by simp [GroupD.okB, h0, h1])
    go_enter Try.func119, Try.ntmps119
    go_wp2_with (first | (go_at_call 140; (with_reducible refine (c_name x.Name _ hs0).mono ?_); rintro e w' ⟨rfl, rfl⟩) | (go_at_call 120; refine (c_in _ _ _ _).mono ?_; rintro e w' ⟨rfl, rfl⟩) | (go_at_call 155; refine (c_angle _ _).mono ?_; rintro e w' ⟨rfl, rfl⟩))
    go_ret
    exact ⟨by rw [HR.out]; first | rfl | exact congrArg (fun b => Ending.returned (Value.bool b)) (by simp; omega), rfl⟩
  cases h2 : inB x.Wish (-1) 9
  · have HR := hide (show x.okB = false by simp [GroupD.okB, h0, h1, h2])
    go_enter Try.func119, Try.ntmps119
    go_wp2_with (first | (go_at_call 140; (with_reducible refine (c_name x.Name _ hs0).mono ?_); rintro e w' ⟨rfl, rfl⟩) | (go_at_call 120; refine (c_in _ _ _ _).mono ?_; rintro e w' ⟨rfl, rfl⟩) | (go_at_call 155; refine (c_angle _ _).mono ?_; rintro e w' ⟨rfl, rfl⟩))
    go_ret
    exact ⟨by rw [HR.out]; first | rfl | exact congrArg (fun b => Ending.returned (Value.bool b)) (by simp; omega), rfl⟩
  have HR := hide (show x.okB = true by simp [GroupD.okB, h0, h1, h2])
  go_enter Try.func119, Try.ntmps119
  go_wp2_with (first | (go_at_call 140; (with_reducible refine (c_name x.Name _ hs0).mono ?_); rintro e w' ⟨rfl, rfl⟩) | (go_at_call 120; refine (c_in _ _ _ _).mono ?_; rintro e w' ⟨rfl, rfl⟩) | (go_at_call 155; refine (c_angle _ _).mono ?_; rintro e w' ⟨rfl, rfl⟩))
  go_ret
  exact ⟨by rw [HR.out]; first | rfl | exact congrArg (fun b => Ending.returned (Value.bool b)) (by simp; omega), rfl⟩

set_option maxHeartbeats 1600000 in
theorem c_l24Ok (A : Option Addr) (c : Nat) (xs : List GroupD) (w : World) (hn : xs.length ≤ 1099511627776) (hw : ∀ x ∈ xs, x.wf) (hA : Rd GroupD.cells 3 w A xs) :
    Calls Try.prog 76 #[.slice A xs.length c] w fun e w' => e = .returned (.bool (groupsB xs)) ∧ IsX w w' := by
  obtain ⟨n, hnn⟩ : ∃ n, n = xs.length := ⟨_, rfl⟩
  have HN := hide hnn
  rw [← hnn] at hn ⊢
  clear hnn
  have HW := hide hw
  clear hw
  have hA0 := hA
  go_enter Try.func76, Try.ntmps76
  go_wp2
  go_loopw [3] (fun i wr => ∃ k : Nat, k ≤ n ∧ i = .int .i64 k ∧ (∀ i, i < k → goodAt GroupD.okB GroupD.geB xs i = true) ∧ IsX w wr) (fun i _ => n - (intOf i).toNat)
  case atStart => exact ⟨0, Nat.zero_le _, rfl, fun i hi => absurd hi (by omega), IsX.refl _⟩
  case round =>
    obtain ⟨k, hk, rfl, hall, p, rfl⟩ := hrel
    have HA := hide hall
    clear hall
    by_cases hlt : k < n
    · have hltx : k < xs.length := HN.out ▸ hlt
      clear hA0
      obtain ⟨b, off, rfl, hb, c0, c1, c2⟩ := GroupD.rd hA (show xs[k]? = some xs[k] from List.getElem?_eq_getElem _)
      have hs0 : xs[k].Name.size ≤ maxLen := by have := HW.out _ (List.getElem_mem hltx); simp only [GroupD.wf] at this; omega
      cases hok : xs[k].okB
      · have HR := hide (show groupsB xs = false by simp [groupsB, bad_ok hok])
        clear hA
        go_wp2
        refine wp_region_x (by kernel_rfl) (by kernel_rfl) ?_
        repeat (go_big_quiet_step ((go_at_call 119; exact call_q (c_l24One xs[k] b (off + k * 3) _ hs0 (keep (IsX.xt ⟨p, rfl⟩ _) hb c0) (keep (IsX.xt ⟨p, rfl⟩ _) hb c1) (keep (IsX.xt ⟨p, rfl⟩ _) hb c2)))))
        refine wpQuiet_nil ?_
        rintro _ ⟨q, rfl⟩
        go_wp2
        go_ret
        exact ⟨by rw [HR.out]; rfl, IsX.xt ⟨p, rfl⟩ q⟩
      · have HO := hide hok
        cases k with
        | zero =>
          clear hA
          rw [show (((0 : Nat) : Int)) = 0 from rfl]
          simp only [Nat.zero_mul, Nat.add_zero] at c0 c1 c2
          go_wp2
          refine wp_region_x (by kernel_rfl) (by kernel_rfl) ?_
          repeat (go_big_quiet_step ((go_at_call 119; exact call_q (c_l24One xs[0] b (off) _ hs0 (keep (IsX.xt ⟨p, rfl⟩ _) hb c0) (keep (IsX.xt ⟨p, rfl⟩ _) hb c1) (keep (IsX.xt ⟨p, rfl⟩ _) hb c2)))))
          refine wpQuiet_nil ?_
          rintro _ ⟨q, rfl⟩
          go_wp2
          go_roundw
          case rel => exact ⟨1, by omega, by go_num, good_step HA.out (good_zero HO.out), IsX.xt ⟨p, rfl⟩ q⟩
          case measure => simp [intOf]; omega
        | succ j =>
          obtain ⟨b', off', e, hb', d0, d1, d2⟩ := GroupD.rd hA (show xs[j]? = some xs[j] from List.getElem?_eq_getElem _)
          injection e with e
          injection e with e1 e2
          subst e1 e2
          clear hA
          rw [show (((j + 1 : Nat) : Int)) = (j : Int) + 1 from rfl]
          cases hge : Op.bytesLess xs[j].Name.toList xs[j + 1].Name.toList
          · have HR := hide (show groupsB xs = false by simp [groupsB, bad_ge (ge := GroupD.geB) (ok := GroupD.okB) (i := j) (h := hltx) (by simp [GroupD.geB, hge])])
            go_wp2
            refine wp_region_x (by kernel_rfl) (by kernel_rfl) ?_
            repeat (go_big_quiet_step ((go_at_call 119; exact call_q (c_l24One xs[j + 1] b (off + (j + 1) * 3) _ hs0 (keep (IsX.xt ⟨p, rfl⟩ _) hb c0) (keep (IsX.xt ⟨p, rfl⟩ _) hb c1) (keep (IsX.xt ⟨p, rfl⟩ _) hb c2)))))
            refine wpQuiet_nil ?_
            rintro _ ⟨q, rfl⟩
            go_wp2
            go_ret
            exact ⟨by rw [HR.out]; rfl, IsX.xt ⟨p, rfl⟩ q⟩
          · have HG := hide hge
            go_wp2
            refine wp_region_x (by kernel_rfl) (by kernel_rfl) ?_
            repeat (go_big_quiet_step ((go_at_call 119; exact call_q (c_l24One xs[j + 1] b (off + (j + 1) * 3) _ hs0 (keep (IsX.xt ⟨p, rfl⟩ _) hb c0) (keep (IsX.xt ⟨p, rfl⟩ _) hb c1) (keep (IsX.xt ⟨p, rfl⟩ _) hb c2)))))
            refine wpQuiet_nil ?_
            rintro _ ⟨q, rfl⟩
            go_wp2
            go_roundw
            case rel => exact ⟨j + 1 + 1, by omega, by go_num, good_step HA.out (good_succ HO.out (by simp [GroupD.geB, HG.out])), IsX.xt ⟨p, rfl⟩ q⟩
            case measure => simp [intOf]; omega
    · obtain rfl : k = n := by omega
      have HG := hide (all_good (ok := GroupD.okB) (ge := GroupD.geB) (xs := xs) (fun i hi => HA.out i (by rw [HN.out]; exact hi)))
      go_wp2
      go_ret
      refine ⟨?_, ⟨p, rfl⟩⟩
      show Ending.returned (Value.bool _) = _
      rw [groupsB, HG.out, Bool.and_true, ← HN.out]
      simp; omega

set_option maxHeartbeats 1600000 in
theorem c_ValidGroups (A : Option Addr) (c : Nat) (xs : List GroupD) (w : World) (hn : xs.length ≤ 1099511627776) (hw : ∀ x ∈ xs, x.wf) (hA : Rd GroupD.cells 3 w A xs) :
    Calls Try.prog 80 #[.slice A xs.length c] w fun e w' => e = .returned (.bool (groupsB xs)) ∧ IsX w w' := by
  by_cases hlen : 12 < xs.length
  · have HR := hide (show groupsB xs = false by rw [groupsB, decide_eq_false (by omega)]; simp)
    generalize xs.length = n at hn hlen ⊢
    go_enter Try.func80, Try.ntmps80
    go_wp2
    go_ret
    exact ⟨by rw [HR.out]; rfl, IsX.refl _⟩
  obtain ⟨n, hnn⟩ : ∃ n, n = xs.length := ⟨_, rfl⟩
  have HN := hide hnn
  rw [← hnn] at hn hlen ⊢
  clear hnn
  have HW := hide hw
  clear hw
  have hA0 := hA
  go_enter Try.func80, Try.ntmps80
  go_wp2
  go_loopw [10] (fun i wr => ∃ k : Nat, k ≤ n ∧ i = .int .i64 k ∧ (∀ i, i < k → goodAt GroupD.okB GroupD.geB xs i = true) ∧ IsX w wr) (fun i _ => n - (intOf i).toNat)
  case atStart => exact ⟨0, Nat.zero_le _, rfl, fun i hi => absurd hi (by omega), IsX.refl _⟩
  case round =>
    obtain ⟨k, hk, rfl, hall, p, rfl⟩ := hrel
    have HA := hide hall
    clear hall
    by_cases hlt : k < n
    · have hltx : k < xs.length := HN.out ▸ hlt
      clear hA0
      obtain ⟨b, off, rfl, hb, c0, c1, c2⟩ := GroupD.rd hA (show xs[k]? = some xs[k] from List.getElem?_eq_getElem _)
      have hs0 : xs[k].Name.size ≤ maxLen := by have := HW.out _ (List.getElem_mem hltx); simp only [GroupD.wf] at this; omega
      cases hok : xs[k].okB
      · have HR := hide (show groupsB xs = false by simp [groupsB, bad_ok hok])
        clear hA
        go_wp2
        refine wp_region_x (by kernel_rfl) (by kernel_rfl) ?_
        repeat (go_big_quiet_step ((go_at_call 122; exact call_x (c_validGroup xs[k] _ hs0))))
        refine wpQuiet_nil ?_
        rintro _ ⟨q, rfl⟩
        go_wp2
        go_ret
        exact ⟨by rw [HR.out]; rfl, IsX.xt (IsX.alloc ⟨p, rfl⟩ _) q⟩
      · have HO := hide hok
        cases k with
        | zero =>
          clear hA
          rw [show (((0 : Nat) : Int)) = 0 from rfl]
          simp only [Nat.zero_mul, Nat.add_zero] at c0 c1 c2
          go_wp2
          refine wp_region_x (by kernel_rfl) (by kernel_rfl) ?_
          repeat (go_big_quiet_step ((go_at_call 122; exact call_x (c_validGroup xs[0] _ hs0))))
          refine wpQuiet_nil ?_
          rintro _ ⟨q, rfl⟩
          go_wp2
          go_roundw
          case rel => exact ⟨1, by omega, by go_num, good_step HA.out (good_zero HO.out), IsX.xt (IsX.alloc ⟨p, rfl⟩ _) q⟩
          case measure => simp [intOf]; omega
        | succ j =>
          obtain ⟨b', off', e, hb', d0, d1, d2⟩ := GroupD.rd hA (show xs[j]? = some xs[j] from List.getElem?_eq_getElem _)
          injection e with e
          injection e with e1 e2
          subst e1 e2
          clear hA
          rw [show (((j + 1 : Nat) : Int)) = (j : Int) + 1 from rfl]
          cases hge : Op.bytesLess xs[j].Name.toList xs[j + 1].Name.toList
          · have HR := hide (show groupsB xs = false by simp [groupsB, bad_ge (ge := GroupD.geB) (ok := GroupD.okB) (i := j) (h := hltx) (by simp [GroupD.geB, hge])])
            go_wp2
            refine wp_region_x (by kernel_rfl) (by kernel_rfl) ?_
            repeat (go_big_quiet_step ((go_at_call 122; exact call_x (c_validGroup xs[j + 1] _ hs0))))
            refine wpQuiet_nil ?_
            rintro _ ⟨q, rfl⟩
            go_wp2
            go_ret
            exact ⟨by rw [HR.out]; rfl, IsX.xt (IsX.alloc ⟨p, rfl⟩ _) q⟩
          · have HG := hide hge
            go_wp2
            refine wp_region_x (by kernel_rfl) (by kernel_rfl) ?_
            repeat (go_big_quiet_step ((go_at_call 122; exact call_x (c_validGroup xs[j + 1] _ hs0))))
            refine wpQuiet_nil ?_
            rintro _ ⟨q, rfl⟩
            go_wp2
            go_roundw
            case rel => exact ⟨j + 1 + 1, by omega, by go_num, good_step HA.out (good_succ HO.out (by simp [GroupD.geB, HG.out])), IsX.xt (IsX.alloc ⟨p, rfl⟩ _) q⟩
            case measure => simp [intOf]; omega
    · obtain rfl : k = n := by omega
      have HG := hide (all_good (ok := GroupD.okB) (ge := GroupD.geB) (xs := xs) (fun i hi => HA.out i (by rw [HN.out]; exact hi)))
      have HR := hide (show groupsB xs = true by rw [groupsB, HG.out, decide_eq_true (by rw [← HN.out]; omega)]; rfl)
      go_wp2
      go_ret
      exact ⟨by rw [HR.out]; rfl, ⟨p, rfl⟩⟩

end Go.Proofs.Yteeafdbfimdddaa
