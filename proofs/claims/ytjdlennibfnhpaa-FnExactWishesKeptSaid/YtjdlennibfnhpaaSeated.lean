/- Persons that are seated, wishes that are kept: what the reference and the program compute. Conditions: those of Groups. -/
import Derived.Test.YtjdlennibfnhpaaPlaces
namespace Go.Proofs.Ytjdlennibfnhpaa
set_option linter.unusedVariables false
open Go.RowKit

def someB (xs : List GroupD) (ps : List Int) : Bool := decide (ps.length = xs.length) && ps.all placeB
def seatedStep (xs : List GroupD) (ps : List Int) (i : Nat) (s : Int) : Int := match ps[i]?, xs[i]? with | some p, some x => if 0 ≤ p then s + x.Persons else s | _, _ => s
def keptStep (xs : List GroupD) (ps : List Int) (i : Nat) (s : Int) : Int := match ps[i]?, xs[i]? with | some p, some x => if 0 ≤ p ∧ p = x.Wish then s + 1 else s | _, _ => s
def groupPair (f : List GroupD → List Int → Nat → Int → Int) (xs : List GroupD) (ps : List Int) : Int × Int := if groupsB xs = true then (if someB xs ps = true then (upTo (f xs ps) 0 ps.length, 0) else (0, 2)) else (0, 1)
theorem pair_bad {f : List GroupD → List Int → Nat → Int → Int} {xs : List GroupD} {ps : List Int} (h : groupsB xs = false) : (groupPair f xs ps).1 = 0 ∧ (groupPair f xs ps).2 = 1 := by simp [groupPair, h]
theorem pair_range {f : List GroupD → List Int → Nat → Int → Int} {xs : List GroupD} {ps : List Int} (h : groupsB xs = true) (h2 : someB xs ps = false) : (groupPair f xs ps).1 = 0 ∧ (groupPair f xs ps).2 = 2 := by simp [groupPair, h, h2]
theorem pair_ok {f : List GroupD → List Int → Nat → Int → Int} {xs : List GroupD} {ps : List Int} (h : groupsB xs = true) (h2 : someB xs ps = true) : (groupPair f xs ps).1 = upTo (f xs ps) 0 ps.length ∧ (groupPair f xs ps).2 = 0 := by simp [groupPair, h, h2]
theorem seated_bd (xs : List GroupD) (ps : List Int) (h : ∀ x ∈ xs, 0 ≤ x.Persons ∧ x.Persons ≤ 1048576) : ∀ k : Nat, 0 ≤ upTo (seatedStep xs ps) 0 k ∧ upTo (seatedStep xs ps) 0 k ≤ k * 1048576
  | 0 => by simp [upTo]
  | k + 1 => by
    have ih := seated_bd xs ps h k
    rw [upTo_succ]
    have e : (((k + 1 : Nat)) : Int) * 1048576 = k * 1048576 + 1048576 := by rw [Int.natCast_add, Int.add_mul]; omega
    rw [e]
    generalize upTo (seatedStep xs ps) 0 k = s at ih ⊢
    unfold seatedStep
    split
    · rename_i p x hp hx
      have := h x (List.mem_of_getElem? hx)
      split <;> omega
    · omega
theorem kept_bd (xs : List GroupD) (ps : List Int) : ∀ k : Nat, 0 ≤ upTo (keptStep xs ps) 0 k ∧ upTo (keptStep xs ps) 0 k ≤ k
  | 0 => by simp [upTo]
  | k + 1 => by
    have ih := kept_bd xs ps k
    rw [upTo_succ]
    generalize upTo (keptStep xs ps) 0 k = s at ih ⊢
    unfold keptStep
    split
    · split <;> omega
    · omega
theorem seated_yes {xs : List GroupD} {ps : List Int} {k : Nat} (h : k < ps.length) (h' : k < xs.length) (hp : 0 ≤ ps[k]) : upTo (seatedStep xs ps) 0 (k + 1) = upTo (seatedStep xs ps) 0 k + xs[k].Persons := by
  rw [upTo_succ]; simp [seatedStep, List.getElem?_eq_getElem h, List.getElem?_eq_getElem h', hp]
theorem seated_no {xs : List GroupD} {ps : List Int} {k : Nat} (h : k < ps.length) (h' : k < xs.length) (hp : ¬ 0 ≤ ps[k]) : upTo (seatedStep xs ps) 0 (k + 1) = upTo (seatedStep xs ps) 0 k := by
  rw [upTo_succ]; simp [seatedStep, List.getElem?_eq_getElem h, List.getElem?_eq_getElem h', hp]
theorem kept_yes {xs : List GroupD} {ps : List Int} {k : Nat} (h : k < ps.length) (h' : k < xs.length) (hp : 0 ≤ ps[k]) (hq : ps[k] = xs[k].Wish) : upTo (keptStep xs ps) 0 (k + 1) = upTo (keptStep xs ps) 0 k + 1 := by
  rw [upTo_succ]; simp [keptStep, List.getElem?_eq_getElem h, List.getElem?_eq_getElem h', hq]; intro h0; omega
theorem kept_no {xs : List GroupD} {ps : List Int} {k : Nat} (h : k < ps.length) (h' : k < xs.length) (hp : ¬ (0 ≤ ps[k] ∧ ps[k] = xs[k].Wish)) : upTo (keptStep xs ps) 0 (k + 1) = upTo (keptStep xs ps) 0 k := by
  rw [upTo_succ]; simp only [keptStep, List.getElem?_eq_getElem h, List.getElem?_eq_getElem h', if_neg hp]

set_option maxHeartbeats 1600000 in
theorem c_areRows (A0 : Option Addr) (c0 : Nat) (xs0 : List GroupD) (A1 : Option Addr) (c1 : Nat) (xs1 : List Int) (w : World) (hn0 : xs0.length ≤ 1099511627776) (hw0 : ∀ x ∈ xs0, x.wf) (hA0 : Rd GroupD.cells 3 w A0 xs0) (hn1 : xs1.length ≤ 1099511627776) (hw1 : ∀ x ∈ xs1, intWf x) (hA1 : Rd intC 1 w A1 xs1) :
    Calls Try.prog 102 #[.slice A0 xs0.length c0, .slice A1 xs1.length c1] w fun e w' => e = .returned (.bool (someB xs0 xs1)) ∧ IsX w w' := by
  by_cases hl : xs1.length = xs0.length
  case neg =>
    have HR := hide (show someB xs0 xs1 = false by rw [someB, decide_eq_false hl]; rfl)
    generalize hm : xs0.length = n at hn0 hl ⊢
    generalize hm' : xs1.length = m at hn1 hl ⊢
    clear hm hm'
    have hl' : ((m : Int) == (n : Int)) = false := by rw [beq_eq_false_iff_ne]; omega
    go_enter Try.func102, Try.ntmps102
    go_wp2_with fail
    go_ret
    exact ⟨by rw [HR.out]; rfl, IsX.refl _⟩
  have HR := hide (show someB xs0 xs1 = !(xs1.any placesNot) by rw [someB, decide_eq_true hl]; show xs1.all placeB = !(xs1.any fun n => !placeB n); rw [any_not_all]; simp)
  rw [← hl]
  clear hn0 hA0 hw0 hl
  obtain ⟨n, hnn⟩ : ∃ n, n = xs1.length := ⟨_, rfl⟩
  have HN := hide hnn
  rw [← hnn] at hn1 ⊢
  clear hnn
  go_enter Try.func102, Try.ntmps102
  go_wp2_with fail
  rw [show n = xs1.length from HN.out]
  refine (c_Contains_places A1 c1 xs1 w (HN.out ▸ hn1) hA1).mono ?_
  rintro e w1 ⟨rfl, hx⟩
  go_wp2_with fail
  go_ret
  exact ⟨by rw [HR.out]; rfl, hx⟩

set_option maxHeartbeats 1600000 in
theorem c_l24Some (A0 : Option Addr) (c0 : Nat) (xs0 : List GroupD) (A1 : Option Addr) (c1 : Nat) (xs1 : List Int) (w : World) (hn0 : xs0.length ≤ 1099511627776) (hw0 : ∀ x ∈ xs0, x.wf) (hA0 : Rd GroupD.cells 3 w A0 xs0) (hn1 : xs1.length ≤ 1099511627776) (hw1 : ∀ x ∈ xs1, intWf x) (hA1 : Rd intC 1 w A1 xs1) :
    Calls Try.prog 101 #[.slice A0 xs0.length c0, .slice A1 xs1.length c1] w fun e w' => e = .returned (.bool (someB xs0 xs1)) ∧ IsX w w' := by
  obtain ⟨n, hnn⟩ : ∃ n, n = xs1.length := ⟨_, rfl⟩
  obtain ⟨m, hmm⟩ : ∃ m, m = xs0.length := ⟨_, rfl⟩
  have HN := hide hnn
  have HM := hide hmm
  rw [← hnn] at hn1 ⊢
  rw [← hmm] at hn0 ⊢
  clear hnn hmm
  go_enter Try.func101, Try.ntmps101
  go_wp2
  go_loopw [5] (fun i wr => ∃ k : Nat, k ≤ n ∧ i = .int .i64 k ∧ (∀ i (h : i < xs1.length), i < k → placeB xs1[i] = true) ∧ IsX w wr) (fun i _ => n - (intOf i).toNat)
  case atStart => exact ⟨0, Nat.zero_le _, rfl, fun i h hi => absurd hi (by omega), IsX.refl _⟩
  case round =>
    obtain ⟨k, hk, rfl, hall, p, rfl⟩ := hrel
    have HA := hide hall
    clear hall
    by_cases hlt : k < n
    · have hltx : k < xs1.length := HN.out ▸ hlt
      obtain ⟨b, off, rfl, hb, d0⟩ := int_rd hA1 (show xs1[k]? = some xs1[k] from List.getElem?_eq_getElem _)
      clear hA1
      cases hp : inB xs1[k] (-1) 9
      · have HR := hide (show someB xs0 xs1 = false by rw [someB, all_not hltx (show placeB xs1[k] = false from hp), Bool.and_false])
        go_wp2_with (go_at_call 96; refine (c_in _ _ _ _).mono ?_; rintro e w' ⟨rfl, rfl⟩)
        go_ret
        exact ⟨by rw [HR.out]; rfl, ⟨p, rfl⟩⟩
      · have HP := hide hp
        go_wp2_with (go_at_call 96; refine (c_in _ _ _ _).mono ?_; rintro e w' ⟨rfl, rfl⟩)
        go_roundw
        case rel => exact ⟨k + 1, by omega, by go_num, step_all hltx HA.out HP.out, ⟨p, rfl⟩⟩
        case measure => simp [intOf]; omega
    · obtain rfl : k = n := by omega
      have HG := hide (all_of (p := placeB) (xs := xs1) (fun i h => HA.out i h (by have := HN.out; omega)))
      go_wp2
      go_ret
      refine ⟨?_, ⟨p, rfl⟩⟩
      rw [someB, HG.out, Bool.and_true, ← HN.out, ← HM.out]
      exact congrArg (fun b => Ending.returned (Value.bool b)) (by rw [Bool.eq_iff_iff, beq_iff_eq, decide_eq_true_eq]; omega)

set_option maxHeartbeats 1600000 in
theorem s_SeatedPersons (A0 : Option Addr) (c0 : Nat) (xs0 : List GroupD) (A1 : Option Addr) (c1 : Nat) (xs1 : List Int) (w : World) (hn0 : xs0.length ≤ 1099511627776) (hw0 : ∀ x ∈ xs0, x.wf) (hA0 : Rd GroupD.cells 3 w A0 xs0) (hn1 : xs1.length ≤ 1099511627776) (hw1 : ∀ x ∈ xs1, intWf x) (hA1 : Rd intC 1 w A1 xs1) :
    Calls Try.prog 54 #[.slice A0 xs0.length c0, .slice A1 xs1.length c1] w fun e w' => e = .returned (.tuple #[.int .i64 (groupPair seatedStep xs0 xs1).1, .int .i64 (groupPair seatedStep xs0 xs1).2]) ∧ IsX w w' := by
  cases hv : groupsB xs0
  · have H := hide (pair_bad (f := seatedStep) (ps := xs1) hv)
    go_enter Try.func54, Try.ntmps54
    go_wp2_with fail
    refine (c_l24Ok A0 c0 xs0 w hn0 hw0 hA0).mono ?_
    rintro e w1 ⟨rfl, hx⟩
    go_wp2_with fail
    go_ret2
    exact ⟨by rw [H.out.1, H.out.2]; rfl, hx⟩
  have HV := hide hv
  cases hs : someB xs0 xs1
  · have H := hide (pair_range (f := seatedStep) hv hs)
    go_enter Try.func54, Try.ntmps54
    go_wp2_with fail
    refine (c_l24Ok A0 c0 xs0 w hn0 hw0 hA0).mono ?_
    rintro e w1 ⟨rfl, hx⟩
    go_wp2_with fail
    refine (c_l24Some A0 c0 xs0 A1 c1 xs1 w1 hn0 hw0 (hA0.x hx) hn1 hw1 (hA1.x hx)).mono ?_
    rintro e w2 ⟨rfl, hx2⟩
    go_wp2_with fail
    go_ret2
    exact ⟨by rw [H.out.1, H.out.2]; rfl, hx.trans hx2⟩
  have H := hide (pair_ok (f := seatedStep) hv hs)
  have hlen : xs1.length = xs0.length := by simp only [someB, Bool.and_eq_true, decide_eq_true_eq] at hs; exact hs.1
  have HL := hide hlen
  clear hlen
  go_enter Try.func54, Try.ntmps54
  go_wp2_with fail
  refine (c_l24Ok A0 c0 xs0 w hn0 hw0 hA0).mono ?_
  rintro e w1 ⟨rfl, hx⟩
  go_wp2_with fail
  refine (c_l24Some A0 c0 xs0 A1 c1 xs1 w1 hn0 hw0 (hA0.x hx) hn1 hw1 (hA1.x hx)).mono ?_
  rintro e w2 ⟨rfl, hx2⟩
  have hA0' := hA0.x (hx.trans hx2)
  have hA1' := hA1.x (hx.trans hx2)
  have HX := hide (hx.trans hx2)
  clear hA0 hA1 hx hx2 hw0 hw1
  obtain ⟨n, hnn⟩ : ∃ n, n = xs1.length := ⟨_, rfl⟩
  have HN := hide hnn
  rw [← hnn] at hn1 ⊢
  clear hnn
  go_wp2
  clear hv hs
  go_loopw [6, 7] (fun s i wr => ∃ k : Nat, k ≤ n ∧ i = .int .i64 k ∧ s = .int .i64 (upTo (seatedStep xs0 xs1) 0 k) ∧ IsX w2 wr) (fun _ i _ => n - (intOf i).toNat)
  case atStart => exact ⟨0, Nat.zero_le _, rfl, rfl, IsX.refl _⟩
  case round =>
    obtain ⟨k, hk, rfl, rfl, p, rfl⟩ := hrel
    by_cases hlt : k < n
    · have hltp : k < xs1.length := HN.out ▸ hlt
      have hltx : k < xs0.length := HL.out ▸ hltp
      obtain ⟨b, off, rfl, hb, c0', c1', c2'⟩ := GroupD.rd hA0' (show xs0[k]? = some xs0[k] from List.getElem?_eq_getElem _)
      obtain ⟨b', off', rfl, hb', d0⟩ := int_rd hA1' (show xs1[k]? = some xs1[k] from List.getElem?_eq_getElem _)
      clear hA0' hA1'
      obtain ⟨z0, z1⟩ := seated_bd xs0 xs1 (groups_cap HV.out) k
      have y := groups_persons HV.out _ (List.getElem_mem hltx)
      obtain ⟨y0, y1, y2, y3⟩ := y
      by_cases hp : 0 ≤ xs1[k]
      · skip
        have HS := hide (seated_yes hltp hltx hp)
        go_wp2
        go_roundw
        case rel => exact ⟨k + 1, by omega, by go_num, by rw [HS.out], ⟨p, rfl⟩⟩
        case measure => simp [intOf]; omega
      · have HP := hide hp
        have HS := hide (seated_no hltp hltx HP.out)
        go_wp2
        go_roundw
        case rel => exact ⟨k + 1, by omega, by go_num, by rw [HS.out], ⟨p, rfl⟩⟩
        case measure => simp [intOf]; omega
    · obtain rfl : k = n := by omega
      go_wp2
      go_ret2
      exact ⟨by rw [H.out.1, H.out.2, ← HN.out]; rfl, IsX.trans HX.out ⟨p, rfl⟩⟩

set_option maxHeartbeats 1600000 in
theorem i_SeatedPersons (A0 : Option Addr) (c0 : Nat) (xs0 : List GroupD) (A1 : Option Addr) (c1 : Nat) (xs1 : List Int) (w : World) (hn0 : xs0.length ≤ 1099511627776) (hw0 : ∀ x ∈ xs0, x.wf) (hA0 : Rd GroupD.cells 3 w A0 xs0) (hn1 : xs1.length ≤ 1099511627776) (hw1 : ∀ x ∈ xs1, intWf x) (hA1 : Rd intC 1 w A1 xs1) :
    Calls Try.prog 55 #[.slice A0 xs0.length c0, .slice A1 xs1.length c1] w fun e w' => e = .returned (.tuple #[.int .i64 (groupPair seatedStep xs0 xs1).1, .int .i64 (groupPair seatedStep xs0 xs1).2]) ∧ IsX w w' := by
  cases hv : groupsB xs0
  · have H := hide (pair_bad (f := seatedStep) (ps := xs1) hv)
    go_enter Try.func55, Try.ntmps55
    go_wp2_with fail
    refine (c_ValidGroups A0 c0 xs0 w hn0 hw0 hA0).mono ?_
    rintro e w1 ⟨rfl, hx⟩
    go_wp2_with fail
    go_ret2
    exact ⟨by rw [H.out.1, H.out.2]; rfl, hx⟩
  have HV := hide hv
  cases hs : someB xs0 xs1
  · have H := hide (pair_range (f := seatedStep) hv hs)
    go_enter Try.func55, Try.ntmps55
    go_wp2_with fail
    refine (c_ValidGroups A0 c0 xs0 w hn0 hw0 hA0).mono ?_
    rintro e w1 ⟨rfl, hx⟩
    go_wp2_with fail
    refine (c_areRows A0 c0 xs0 A1 c1 xs1 w1 hn0 hw0 (hA0.x hx) hn1 hw1 (hA1.x hx)).mono ?_
    rintro e w2 ⟨rfl, hx2⟩
    go_wp2_with fail
    go_ret2
    exact ⟨by rw [H.out.1, H.out.2]; rfl, hx.trans hx2⟩
  have H := hide (pair_ok (f := seatedStep) hv hs)
  have hlen : xs1.length = xs0.length := by simp only [someB, Bool.and_eq_true, decide_eq_true_eq] at hs; exact hs.1
  have HL := hide hlen
  clear hlen
  go_enter Try.func55, Try.ntmps55
  go_wp2_with fail
  refine (c_ValidGroups A0 c0 xs0 w hn0 hw0 hA0).mono ?_
  rintro e w1 ⟨rfl, hx⟩
  go_wp2_with fail
  refine (c_areRows A0 c0 xs0 A1 c1 xs1 w1 hn0 hw0 (hA0.x hx) hn1 hw1 (hA1.x hx)).mono ?_
  rintro e w2 ⟨rfl, hx2⟩
  have hA0' := hA0.x (hx.trans hx2)
  have hA1' := hA1.x (hx.trans hx2)
  have HX := hide (hx.trans hx2)
  clear hA0 hA1 hx hx2 hw0 hw1
  obtain ⟨n, hnn⟩ : ∃ n, n = xs1.length := ⟨_, rfl⟩
  have HN := hide hnn
  rw [← hnn] at hn1 ⊢
  clear hnn
  go_wp2
  clear hv hs
  go_loopw [6, 18] (fun s i wr => ∃ k : Nat, k ≤ n ∧ i = .int .i64 k ∧ s = .int .i64 (upTo (seatedStep xs0 xs1) 0 k) ∧ IsX w2 wr) (fun _ i _ => n - (intOf i).toNat)
  case atStart => exact ⟨0, Nat.zero_le _, rfl, rfl, IsX.refl _⟩
  case round =>
    obtain ⟨k, hk, rfl, rfl, p, rfl⟩ := hrel
    by_cases hlt : k < n
    · have hltp : k < xs1.length := HN.out ▸ hlt
      have hltx : k < xs0.length := HL.out ▸ hltp
      obtain ⟨b, off, rfl, hb, c0', c1', c2'⟩ := GroupD.rd hA0' (show xs0[k]? = some xs0[k] from List.getElem?_eq_getElem _)
      obtain ⟨b', off', rfl, hb', d0⟩ := int_rd hA1' (show xs1[k]? = some xs1[k] from List.getElem?_eq_getElem _)
      clear hA0' hA1'
      obtain ⟨z0, z1⟩ := seated_bd xs0 xs1 (groups_cap HV.out) k
      have y := groups_persons HV.out _ (List.getElem_mem hltx)
      obtain ⟨y0, y1, y2, y3⟩ := y
      by_cases hp : 0 ≤ xs1[k]
      · skip
        have HS := hide (seated_yes hltp hltx hp)
        go_wp2
        go_roundw
        case rel => exact ⟨k + 1, by omega, by go_num, by rw [HS.out], ⟨p, rfl⟩⟩
        case measure => simp [intOf]; omega
      · have HP := hide hp
        have HS := hide (seated_no hltp hltx HP.out)
        go_wp2
        go_roundw
        case rel => exact ⟨k + 1, by omega, by go_num, by rw [HS.out], ⟨p, rfl⟩⟩
        case measure => simp [intOf]; omega
    · obtain rfl : k = n := by omega
      go_wp2
      go_ret2
      exact ⟨by rw [H.out.1, H.out.2, ← HN.out]; rfl, IsX.trans HX.out ⟨p, rfl⟩⟩

set_option maxHeartbeats 1600000 in
theorem s_WishesKept (A0 : Option Addr) (c0 : Nat) (xs0 : List GroupD) (A1 : Option Addr) (c1 : Nat) (xs1 : List Int) (w : World) (hn0 : xs0.length ≤ 1099511627776) (hw0 : ∀ x ∈ xs0, x.wf) (hA0 : Rd GroupD.cells 3 w A0 xs0) (hn1 : xs1.length ≤ 1099511627776) (hw1 : ∀ x ∈ xs1, intWf x) (hA1 : Rd intC 1 w A1 xs1) :
    Calls Try.prog 56 #[.slice A0 xs0.length c0, .slice A1 xs1.length c1] w fun e w' => e = .returned (.tuple #[.int .i64 (groupPair keptStep xs0 xs1).1, .int .i64 (groupPair keptStep xs0 xs1).2]) ∧ IsX w w' := by
  cases hv : groupsB xs0
  · have H := hide (pair_bad (f := keptStep) (ps := xs1) hv)
    go_enter Try.func56, Try.ntmps56
    go_wp2_with fail
    refine (c_l24Ok A0 c0 xs0 w hn0 hw0 hA0).mono ?_
    rintro e w1 ⟨rfl, hx⟩
    go_wp2_with fail
    go_ret2
    exact ⟨by rw [H.out.1, H.out.2]; rfl, hx⟩
  have HV := hide hv
  cases hs : someB xs0 xs1
  · have H := hide (pair_range (f := keptStep) hv hs)
    go_enter Try.func56, Try.ntmps56
    go_wp2_with fail
    refine (c_l24Ok A0 c0 xs0 w hn0 hw0 hA0).mono ?_
    rintro e w1 ⟨rfl, hx⟩
    go_wp2_with fail
    refine (c_l24Some A0 c0 xs0 A1 c1 xs1 w1 hn0 hw0 (hA0.x hx) hn1 hw1 (hA1.x hx)).mono ?_
    rintro e w2 ⟨rfl, hx2⟩
    go_wp2_with fail
    go_ret2
    exact ⟨by rw [H.out.1, H.out.2]; rfl, hx.trans hx2⟩
  have H := hide (pair_ok (f := keptStep) hv hs)
  have hlen : xs1.length = xs0.length := by simp only [someB, Bool.and_eq_true, decide_eq_true_eq] at hs; exact hs.1
  have HL := hide hlen
  clear hlen
  go_enter Try.func56, Try.ntmps56
  go_wp2_with fail
  refine (c_l24Ok A0 c0 xs0 w hn0 hw0 hA0).mono ?_
  rintro e w1 ⟨rfl, hx⟩
  go_wp2_with fail
  refine (c_l24Some A0 c0 xs0 A1 c1 xs1 w1 hn0 hw0 (hA0.x hx) hn1 hw1 (hA1.x hx)).mono ?_
  rintro e w2 ⟨rfl, hx2⟩
  have hA0' := hA0.x (hx.trans hx2)
  have hA1' := hA1.x (hx.trans hx2)
  have HX := hide (hx.trans hx2)
  clear hA0 hA1 hx hx2 hw0 hw1
  obtain ⟨n, hnn⟩ : ∃ n, n = xs1.length := ⟨_, rfl⟩
  have HN := hide hnn
  rw [← hnn] at hn1 ⊢
  clear hnn
  go_wp2
  clear hv hs
  go_loopw [6, 7] (fun s i wr => ∃ k : Nat, k ≤ n ∧ i = .int .i64 k ∧ s = .int .i64 (upTo (keptStep xs0 xs1) 0 k) ∧ IsX w2 wr) (fun _ i _ => n - (intOf i).toNat)
  case atStart => exact ⟨0, Nat.zero_le _, rfl, rfl, IsX.refl _⟩
  case round =>
    obtain ⟨k, hk, rfl, rfl, p, rfl⟩ := hrel
    by_cases hlt : k < n
    · have hltp : k < xs1.length := HN.out ▸ hlt
      have hltx : k < xs0.length := HL.out ▸ hltp
      obtain ⟨b, off, rfl, hb, c0', c1', c2'⟩ := GroupD.rd hA0' (show xs0[k]? = some xs0[k] from List.getElem?_eq_getElem _)
      obtain ⟨b', off', rfl, hb', d0⟩ := int_rd hA1' (show xs1[k]? = some xs1[k] from List.getElem?_eq_getElem _)
      clear hA0' hA1'
      obtain ⟨z0, z1⟩ := kept_bd xs0 xs1 k
      have y := groups_persons HV.out _ (List.getElem_mem hltx)
      obtain ⟨y0, y1, y2, y3⟩ := y
      by_cases hp : 0 ≤ xs1[k]
      · by_cases hq : xs1[k] = xs0[k].Wish
        · have HQ := hide hq
          have hqb : (xs1[k] == xs0[k].Wish) = true := by rw [beq_iff_eq]; exact hq
          clear hq
          have HS := hide (kept_yes hltp hltx hp HQ.out)
          go_wp2
          refine wp_region_x (by kernel_rfl) (by kernel_rfl) ?_
          repeat (first | go_big_quiet_step (fail) | quiet_step (fail))
          refine wpQuiet_nil ?_
          rintro _ ⟨q, rfl⟩
          go_wp2
          go_roundw
          case rel => exact ⟨k + 1, by omega, by go_num, by rw [HS.out], IsX.xt ⟨p, rfl⟩ q⟩
          case measure => simp [intOf]; omega
        · have HQ := hide hq
          have hqb : (xs1[k] == xs0[k].Wish) = false := by rw [beq_eq_false_iff_ne]; exact hq
          clear hq
          have HS := hide (kept_no hltp hltx (fun h => HQ.out h.2))
          go_wp2
          refine wp_region_x (by kernel_rfl) (by kernel_rfl) ?_
          repeat (first | go_big_quiet_step (fail) | quiet_step (fail))
          refine wpQuiet_nil ?_
          rintro _ ⟨q, rfl⟩
          go_wp2
          go_roundw
          case rel => exact ⟨k + 1, by omega, by go_num, by rw [HS.out], IsX.xt ⟨p, rfl⟩ q⟩
          case measure => simp [intOf]; omega
      · have HP := hide hp
        have hpb : decide (0 ≤ xs1[k]) = false := decide_eq_false hp
        have HS := hide (kept_no hltp hltx (fun h => HP.out h.1))
        go_wp2
        refine wp_region_x (by kernel_rfl) (by kernel_rfl) ?_
        repeat (first | go_big_quiet_step (fail) | quiet_step (fail))
        refine wpQuiet_nil ?_
        rintro _ ⟨q, rfl⟩
        go_wp2
        go_roundw
        case rel => exact ⟨k + 1, by omega, by go_num, by rw [HS.out], IsX.xt ⟨p, rfl⟩ q⟩
        case measure => simp [intOf]; omega
    · obtain rfl : k = n := by omega
      go_wp2
      go_ret2
      exact ⟨by rw [H.out.1, H.out.2, ← HN.out]; rfl, IsX.trans HX.out ⟨p, rfl⟩⟩

set_option maxHeartbeats 1600000 in
theorem i_WishesKept (A0 : Option Addr) (c0 : Nat) (xs0 : List GroupD) (A1 : Option Addr) (c1 : Nat) (xs1 : List Int) (w : World) (hn0 : xs0.length ≤ 1099511627776) (hw0 : ∀ x ∈ xs0, x.wf) (hA0 : Rd GroupD.cells 3 w A0 xs0) (hn1 : xs1.length ≤ 1099511627776) (hw1 : ∀ x ∈ xs1, intWf x) (hA1 : Rd intC 1 w A1 xs1) :
    Calls Try.prog 57 #[.slice A0 xs0.length c0, .slice A1 xs1.length c1] w fun e w' => e = .returned (.tuple #[.int .i64 (groupPair keptStep xs0 xs1).1, .int .i64 (groupPair keptStep xs0 xs1).2]) ∧ IsX w w' := by
  cases hv : groupsB xs0
  · have H := hide (pair_bad (f := keptStep) (ps := xs1) hv)
    go_enter Try.func57, Try.ntmps57
    go_wp2_with fail
    refine (c_ValidGroups A0 c0 xs0 w hn0 hw0 hA0).mono ?_
    rintro e w1 ⟨rfl, hx⟩
    go_wp2_with fail
    go_ret2
    exact ⟨by rw [H.out.1, H.out.2]; rfl, hx⟩
  have HV := hide hv
  cases hs : someB xs0 xs1
  · have H := hide (pair_range (f := keptStep) hv hs)
    go_enter Try.func57, Try.ntmps57
    go_wp2_with fail
    refine (c_ValidGroups A0 c0 xs0 w hn0 hw0 hA0).mono ?_
    rintro e w1 ⟨rfl, hx⟩
    go_wp2_with fail
    refine (c_areRows A0 c0 xs0 A1 c1 xs1 w1 hn0 hw0 (hA0.x hx) hn1 hw1 (hA1.x hx)).mono ?_
    rintro e w2 ⟨rfl, hx2⟩
    go_wp2_with fail
    go_ret2
    exact ⟨by rw [H.out.1, H.out.2]; rfl, hx.trans hx2⟩
  have H := hide (pair_ok (f := keptStep) hv hs)
  have hlen : xs1.length = xs0.length := by simp only [someB, Bool.and_eq_true, decide_eq_true_eq] at hs; exact hs.1
  have HL := hide hlen
  clear hlen
  go_enter Try.func57, Try.ntmps57
  go_wp2_with fail
  refine (c_ValidGroups A0 c0 xs0 w hn0 hw0 hA0).mono ?_
  rintro e w1 ⟨rfl, hx⟩
  go_wp2_with fail
  refine (c_areRows A0 c0 xs0 A1 c1 xs1 w1 hn0 hw0 (hA0.x hx) hn1 hw1 (hA1.x hx)).mono ?_
  rintro e w2 ⟨rfl, hx2⟩
  have hA0' := hA0.x (hx.trans hx2)
  have hA1' := hA1.x (hx.trans hx2)
  have HX := hide (hx.trans hx2)
  clear hA0 hA1 hx hx2 hw0 hw1
  obtain ⟨n, hnn⟩ : ∃ n, n = xs1.length := ⟨_, rfl⟩
  have HN := hide hnn
  rw [← hnn] at hn1 ⊢
  clear hnn
  go_wp2
  clear hv hs
  go_loopw [6, 18] (fun s i wr => ∃ k : Nat, k ≤ n ∧ i = .int .i64 k ∧ s = .int .i64 (upTo (keptStep xs0 xs1) 0 k) ∧ IsX w2 wr) (fun _ i _ => n - (intOf i).toNat)
  case atStart => exact ⟨0, Nat.zero_le _, rfl, rfl, IsX.refl _⟩
  case round =>
    obtain ⟨k, hk, rfl, rfl, p, rfl⟩ := hrel
    by_cases hlt : k < n
    · have hltp : k < xs1.length := HN.out ▸ hlt
      have hltx : k < xs0.length := HL.out ▸ hltp
      obtain ⟨b, off, rfl, hb, c0', c1', c2'⟩ := GroupD.rd hA0' (show xs0[k]? = some xs0[k] from List.getElem?_eq_getElem _)
      obtain ⟨b', off', rfl, hb', d0⟩ := int_rd hA1' (show xs1[k]? = some xs1[k] from List.getElem?_eq_getElem _)
      clear hA0' hA1'
      obtain ⟨z0, z1⟩ := kept_bd xs0 xs1 k
      have y := groups_persons HV.out _ (List.getElem_mem hltx)
      obtain ⟨y0, y1, y2, y3⟩ := y
      by_cases hp : 0 ≤ xs1[k]
      · by_cases hq : xs1[k] = xs0[k].Wish
        · have HQ := hide hq
          have hqb : (xs1[k] == xs0[k].Wish) = true := by rw [beq_iff_eq]; exact hq
          clear hq
          have HS := hide (kept_yes hltp hltx hp HQ.out)
          go_wp2
          go_roundw
          case rel => exact ⟨k + 1, by omega, by go_num, by rw [HS.out], ⟨p, rfl⟩⟩
          case measure => simp [intOf]; omega
        · have HQ := hide hq
          have hqb : (xs1[k] == xs0[k].Wish) = false := by rw [beq_eq_false_iff_ne]; exact hq
          clear hq
          have HS := hide (kept_no hltp hltx (fun h => HQ.out h.2))
          go_wp2
          go_roundw
          case rel => exact ⟨k + 1, by omega, by go_num, by rw [HS.out], ⟨p, rfl⟩⟩
          case measure => simp [intOf]; omega
      · have HP := hide hp
        have hpb : decide (0 ≤ xs1[k]) = false := decide_eq_false hp
        have HS := hide (kept_no hltp hltx (fun h => HP.out h.1))
        go_wp2
        go_roundw
        case rel => exact ⟨k + 1, by omega, by go_num, by rw [HS.out], ⟨p, rfl⟩⟩
        case measure => simp [intOf]; omega
    · obtain rfl : k = n := by omega
      go_wp2
      go_ret2
      exact ⟨by rw [H.out.1, H.out.2, ← HN.out]; rfl, IsX.trans HX.out ⟨p, rfl⟩⟩

end Go.Proofs.Ytjdlennibfnhpaa
