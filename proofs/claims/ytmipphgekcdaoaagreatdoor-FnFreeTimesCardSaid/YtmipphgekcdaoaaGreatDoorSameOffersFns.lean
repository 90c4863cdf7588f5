/- Two lists of offers compared: what the reference and the program compute. Conditions: lists no longer than 2^40. -/
import Derived.Test.YtmipphgekcdaoaaGreatDoorFlatOffer
import Derived.Test.YtmipphgekcdaoaaGreatDoorLists
namespace Go.Proofs.YtmipphgekcdaoaaGreatDoor
set_option linter.unusedVariables false
open Go.RowKit

def OfferD.eqB (x y : OfferD) : Bool := (x.Id.toList == y.Id.toList) && (x.Kind.toList == y.Kind.toList) && (x.Start == y.Start) && (x.Length == y.Length) && (x.Worth == y.Worth)
theorem run_neq_Offer (x y : OfferD) (W : World) : (binOp .neq 33 (.agg #[.string x.Id, .string x.Kind, .int .i64 x.Start, .int .i64 x.Length, .int .i64 x.Worth]) (.agg #[.string y.Id, .string y.Kind, .int .i64 y.Start, .int .i64 y.Length, .int .i64 y.Worth])).run Tryz.prog W = .ok (.bool (!x.eqB y)) W := by
  cases h0 : (x.Id.toList == y.Id.toList)
  · simp [go_sem, OfferD.eqB, h0]
  cases h1 : (x.Kind.toList == y.Kind.toList)
  · simp [go_sem, OfferD.eqB, h0, h1]
  cases h2 : (x.Start == y.Start)
  · simp [go_sem, OfferD.eqB, h0, h1, h2]
  cases h3 : (x.Length == y.Length)
  · simp [go_sem, OfferD.eqB, h0, h1, h2, h3]
  cases h4 : (x.Worth == y.Worth)
  · simp [go_sem, OfferD.eqB, h0, h1, h2, h3, h4]
  simp [go_sem, OfferD.eqB, h0, h1, h2, h3, h4]

set_option maxHeartbeats 800000 in
theorem c_EqualOffer (A0 : Option Addr) (c0' : Nat) (xs0 : List OfferD) (A1 : Option Addr) (c1' : Nat) (xs1 : List OfferD) (w : World) (hn0 : xs0.length ≤ 1099511627776) (hw0 : ∀ x ∈ xs0, x.wf) (hA0 : Rd OfferD.cells 5 w A0 xs0)
    (hn1 : xs1.length ≤ 1099511627776) (hw1 : ∀ x ∈ xs1, x.wf) (hA1 : Rd OfferD.cells 5 w A1 xs1) :
    Calls Tryz.prog 35 #[.slice A0 xs0.length c0', .slice A1 xs1.length c1'] w fun e w' => e = .returned (.bool (sameB OfferD.eqB xs0 xs1)) ∧ IsX w w' := by
  by_cases hl : xs0.length = xs1.length
  case neg =>
    have HR := hide (same_len (eq := OfferD.eqB) hl)
    generalize hm : xs0.length = n at hn0 hl ⊢
    generalize hm' : xs1.length = m at hn1 hl ⊢
    clear hm hm'
    have hl' : ((n : Int) != (m : Int)) = true := by rw [bne_iff_ne]; omega
    go_enter Tryz.func35, Tryz.ntmps35
    go_wp2_with fail
    go_ret
    exact ⟨by rw [HR.out]; rfl, IsX.refl _⟩
  obtain ⟨n, hnn⟩ : ∃ n, n = xs0.length := ⟨_, rfl⟩
  have HN := hide hnn
  have HL := hide hl
  rw [← hl, ← hnn]
  rw [← hnn] at hn0
  clear hnn hl hn1
  go_enter Tryz.func35, Tryz.ntmps35
  go_wp2
  go_loopw [13] (fun i wr => ∃ k : Nat, k ≤ n ∧ i = .int .i64 k ∧ (∀ i (h : i < xs0.length) (h' : i < xs1.length), i < k → OfferD.eqB xs0[i] xs1[i] = true) ∧ IsX w wr) (fun i _ => n - (intOf i).toNat)
  case atStart => exact ⟨0, Nat.zero_le _, rfl, fun i h h' hi => absurd hi (by omega), IsX.refl _⟩
  case round =>
    obtain ⟨k, hk, rfl, hall, p, rfl⟩ := hrel
    have HA := hide hall
    clear hall
    by_cases hlt : k < n
    · have hltx : k < xs0.length := HN.out ▸ hlt
      have hlty : k < xs1.length := HL.out ▸ hltx
      obtain ⟨b, off, rfl, hb, c0, c1, c2, c3, c4⟩ := OfferD.rd hA0 (show xs0[k]? = some xs0[k] from List.getElem?_eq_getElem _)
      obtain ⟨b', off', rfl, hb', d0, d1, d2, d3, d4⟩ := OfferD.rd hA1 (show xs1[k]? = some xs1[k] from List.getElem?_eq_getElem _)
      clear hA0 hA1
      cases hq : OfferD.eqB xs0[k] xs1[k]
      · have HR := hide (same_not (eq := OfferD.eqB) hltx hlty hq)
        have hrun := fun W => run_neq_Offer xs0[k] xs1[k] W
        rw [hq] at hrun
        go_wp2
        refine wp_region_x (by kernel_rfl) (by kernel_rfl) ?_
        repeat (first | go_big_quiet_step (fail) | quiet_step (fail))
        refine wpQuiet_nil ?_
        rintro _ ⟨q, rfl⟩
        go_wp2
        go_ret
        exact ⟨by rw [HR.out]; rfl, IsX.xt ⟨p, rfl⟩ q⟩
      · have HQ := hide hq
        have hrun := fun W => run_neq_Offer xs0[k] xs1[k] W
        rw [hq] at hrun
        go_wp2
        refine wp_region_x (by kernel_rfl) (by kernel_rfl) ?_
        repeat (first | go_big_quiet_step (fail) | quiet_step (fail))
        refine wpQuiet_nil ?_
        rintro _ ⟨q, rfl⟩
        go_wp2
        go_roundw
        case rel => exact ⟨k + 1, by omega, by go_num, same_step hltx hlty HA.out HQ.out, IsX.xt ⟨p, rfl⟩ q⟩
        case measure => simp [intOf]; omega
    · have HR := hide (same_all (eq := OfferD.eqB) HL.out (fun i h h' => HA.out i h h' (by have := HN.out; omega)))
      go_wp2
      go_ret
      exact ⟨by rw [HR.out]; rfl, ⟨p, rfl⟩⟩

theorem c_SameOffers (A0 : Option Addr) (c0 : Nat) (xs0 : List OfferD) (A1 : Option Addr) (c1 : Nat) (xs1 : List OfferD) (w : World) (hn0 : xs0.length ≤ 1099511627776) (hw0 : ∀ x ∈ xs0, x.wf) (hA0 : Rd OfferD.cells 5 w A0 xs0) (hn1 : xs1.length ≤ 1099511627776) (hw1 : ∀ x ∈ xs1, x.wf) (hA1 : Rd OfferD.cells 5 w A1 xs1) : Calls Tryz.prog 14 #[.slice A0 xs0.length c0, .slice A1 xs1.length c1] w fun e w' => e = .returned (.bool (sameB OfferD.eqB xs0 xs1)) ∧ IsX w w' := by
  go_enter Tryz.func14, Tryz.ntmps14
  go_wp2_with fail
  refine (c_EqualOffer A0 c0 xs0 A1 c1 xs1 w hn0 hw0 hA0 hn1 hw1 hA1).mono ?_
  rintro e w1 ⟨rfl, hx⟩
  go_wp2_with fail
  go_ret
  exact ⟨rfl, hx⟩

end Go.Proofs.YtmipphgekcdaoaaGreatDoor
