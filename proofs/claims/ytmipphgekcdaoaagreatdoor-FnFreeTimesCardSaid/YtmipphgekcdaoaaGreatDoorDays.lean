/- The worth of a day and the codes for offers and indices: what the reference and the program compute. Conditions: those of Offers. -/
import Derived.Test.YtmipphgekcdaoaaGreatDoorOffers
import Derived.Test.YtmipphgekcdaoaaGreatDoorNums
namespace Go.Proofs.YtmipphgekcdaoaaGreatDoor
set_option linter.unusedVariables false
open Go.RowKit

theorem offers_len {xs : List OfferD} (h : offersB xs = true) : xs.length ≤ 16 := by
  simp only [offersB, Bool.and_eq_true, decide_eq_true_eq] at h
  exact h.1
theorem offers_ok {xs : List OfferD} (h : offersB xs = true) : ∀ x ∈ xs, (1 ≤ x.Id.size ∧ x.Id.size ≤ 10) ∧ (1 ≤ x.Kind.size ∧ x.Kind.size ≤ 10) ∧ 0 ≤ x.Start ∧ x.Start ≤ 1439 ∧ 1 ≤ x.Length ∧ x.Start + x.Length ≤ 1440 ∧ 0 ≤ x.Worth ∧ x.Worth ≤ 10000 := by
  intro x hx
  simp only [offersB, Bool.and_eq_true] at h
  have h1 := allGood_ok h.2 x hx
  simp only [OfferD.okB, Bool.and_eq_true] at h1
  have h2 := inB_true.1 h1.1.1.2
  have h3 := inB_true.1 h1.1.2
  have h4 := inB_true.1 h1.2
  have h5 := name_size h1.1.1.1.1
  have h6 := name_size h1.1.1.1.2
  omega
/-- the code for offers and indices -/
def askB (xs : List OfferD) (ps : List Int) : Int := if offersB xs = true then (if risesB ps 0 (xs.length - 1) = true then 0 else 2) else 1
theorem ask_bad {xs : List OfferD} {ps : List Int} (h : offersB xs = false) : askB xs ps = 1 := by simp [askB, h]
theorem ask_range {xs : List OfferD} {ps : List Int} (h : offersB xs = true) (h2 : risesB ps 0 (xs.length - 1) = false) : askB xs ps = 2 := by simp [askB, h, h2]
theorem ask_ok {xs : List OfferD} {ps : List Int} (h : offersB xs = true) (h2 : risesB ps 0 (xs.length - 1) = true) : askB xs ps = 0 := by simp [askB, h, h2]
def worthStep (xs : List OfferD) (ps : List Int) (i : Nat) (s : Int) : Int := match ps[i]? with | some p => (match xs[p.toNat]? with | some x => s + x.Worth | none => s) | none => s
def worthOf (xs : List OfferD) (ps : List Int) : Int := if askB xs ps = 0 then upTo (worthStep xs ps) 0 ps.length else 0
theorem worth_next {xs : List OfferD} {ps : List Int} {k j : Nat} (h : k < ps.length) (h' : j < xs.length) (e : ps[k] = (j : Int)) : upTo (worthStep xs ps) 0 (k + 1) = upTo (worthStep xs ps) 0 k + xs[j].Worth := by
  rw [upTo_succ]
  have : ps[k].toNat = j := by omega
  simp only [worthStep, List.getElem?_eq_getElem h, this, List.getElem?_eq_getElem h']
theorem worth_bd (xs : List OfferD) (ps : List Int) (h : ∀ x ∈ xs, 0 ≤ x.Worth ∧ x.Worth ≤ 10000) : ∀ k : Nat, 0 ≤ upTo (worthStep xs ps) 0 k ∧ upTo (worthStep xs ps) 0 k ≤ k * 10000
  | 0 => by simp [upTo]
  | k + 1 => by
    have ih := worth_bd xs ps h k
    rw [upTo_succ]
    have e : (((k + 1 : Nat)) : Int) * 10000 = k * 10000 + 10000 := by rw [Int.natCast_add, Int.add_mul]; omega
    rw [e]
    generalize upTo (worthStep xs ps) 0 k = s at ih ⊢
    unfold worthStep
    split
    · split
      · rename_i x hx
        have := h x (List.mem_of_getElem? hx)
        omega
      · omega
    · omega

end Go.Proofs.YtmipphgekcdaoaaGreatDoor
