/- Small functions over lists of numbers: what they compute. Conditions: lists no longer than 2^40. -/
import Derived.Test.YtpdfebalkkbpoaaDoorLInt64
import Derived.Test.YtpdfebalkkbpoaaDoorNames
import Derived.Test.YtpdfebalkkbpoaaDoorLists
namespace Go.Proofs.YtpdfebalkkbpoaaDoor
set_option linter.unusedVariables false
open Go.RowKit

def geI (x y : Int) : Bool := decide (y ≤ x)
def risesB (xs : List Int) (lo hi : Int) : Bool := allGood (fun n => inB n lo hi) geI xs

theorem rises_mem {xs : List Int} {lo hi : Int} (h : risesB xs lo hi = true) : ∀ x ∈ xs, lo ≤ x ∧ x ≤ hi := fun x hx => inB_true.1 (allGood_ok (ok := fun n => inB n lo hi) h x hx)
theorem rises_lt {xs : List Int} {lo hi : Int} (h : risesB xs lo hi = true) {i : Nat} (hi : i + 1 < xs.length) : xs[i]'(by omega) < xs[i + 1] := by
  have := allGood_lt (ge := geI) h hi
  simp only [geI, decide_eq_false_iff_not] at this
  omega
theorem rises_all {xs : List Int} {lo hi : Int} (h : risesB xs lo hi = true) (i : Nat) : ∀ d (hd : i + d + 1 < xs.length), xs[i]'(by omega) < xs[i + d + 1]
  | 0, hd => rises_lt h hd
  | d + 1, hd => by
    have h1 := rises_all h i d (by omega)
    have h2 := rises_lt h (i := i + d + 1) hd
    exact Int.lt_trans h1 h2
theorem rises_pair {xs : List Int} {lo hi : Int} (h : risesB xs lo hi = true) {i j : Nat} (hij : i < j) (hj : j < xs.length) : xs[i]'(by omega) < xs[j] := by
  have := rises_all h i (j - i - 1) (by omega)
  have e : i + (j - i - 1) + 1 = j := by omega
  simpa only [e] using this

end Go.Proofs.YtpdfebalkkbpoaaDoor
