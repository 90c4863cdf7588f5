/- Offers that clash: what the reference and the program compute; IsDay. Conditions: offers are valid. -/
import Derived.Test.YtdedaoafihomoaaDays
namespace Go.Proofs.Ytdedaoafihomoaa
set_option linter.unusedVariables false
open Go.RowKit

def gapI (x y : OfferD) (ch : Int) : Int := if (x.Kind.toList == y.Kind.toList) = true then 0 else ch
def clashB (x y : OfferD) (ch : Int) : Bool := if x.Start ≤ y.Start then decide (y.Start < x.Start + x.Length + gapI x y ch) else decide (x.Start < y.Start + y.Length + gapI x y ch)
theorem gap_same {x y : OfferD} {ch : Int} (h : (x.Kind.toList == y.Kind.toList) = true) : gapI x y ch = 0 := by simp only [gapI, h, if_true]
theorem gap_diff {x y : OfferD} {ch : Int} (h : (x.Kind.toList == y.Kind.toList) = false) : gapI x y ch = ch := by simp only [gapI, h, Bool.false_eq_true, if_false]
theorem clash_le {x y : OfferD} {ch : Int} (h : x.Start ≤ y.Start) : clashB x y ch = decide (y.Start < x.Start + x.Length + gapI x y ch) := by simp only [clashB, if_pos h]
theorem clash_gt {x y : OfferD} {ch : Int} (h : ¬ x.Start ≤ y.Start) : clashB x y ch = decide (x.Start < y.Start + y.Length + gapI x y ch) := by simp only [clashB, if_neg h]
theorem clash_sym {x y : OfferD} {ch : Int} (hx : 1 ≤ x.Length) (hy : 1 ≤ y.Length) (hc : 0 ≤ ch) : clashB x y ch = clashB y x ch := by
  have hg : gapI x y ch = gapI y x ch := by
    cases hk : (x.Kind.toList == y.Kind.toList)
    · have hk2 : (y.Kind.toList == x.Kind.toList) = false := by simp only [beq_eq_false_iff_ne] at hk ⊢; exact fun e => hk e.symm
      rw [gap_diff hk, gap_diff hk2]
    · have hk2 : (y.Kind.toList == x.Kind.toList) = true := by simp only [beq_iff_eq] at hk ⊢; exact hk.symm
      rw [gap_same hk, gap_same hk2]
  have hg0 : 0 ≤ gapI y x ch := by unfold gapI; split <;> omega
  by_cases h1 : x.Start ≤ y.Start
  · by_cases h2 : y.Start ≤ x.Start
    · rw [clash_le h1, clash_le h2, hg, decide_eq_true (by omega), decide_eq_true (by omega)]
    · rw [clash_le h1, clash_gt h2, hg]
  · rw [clash_gt h1, clash_le (by omega), hg]

set_option maxHeartbeats 1600000 in
theorem c_offersConflict (x y : OfferD) (ch : Int) (w : World) (hx : 0 ≤ x.Start ∧ x.Start ≤ 1440 ∧ 0 ≤ x.Length ∧ x.Length ≤ 1440) (hy : 0 ≤ y.Start ∧ y.Start ≤ 1440 ∧ 0 ≤ y.Length ∧ y.Length ≤ 1440) (hc : 0 ≤ ch ∧ ch ≤ 240) :
    Calls Try.prog 25 #[.agg #[.string x.Id, .string x.Kind, .int .i64 x.Start, .int .i64 x.Length, .int .i64 x.Worth], .agg #[.string y.Id, .string y.Kind, .int .i64 y.Start, .int .i64 y.Length, .int .i64 y.Worth], .int .i64 ch] w fun e w' => e = .returned (.bool (clashB x y ch)) ∧ IsX w w' := by
  obtain ⟨x0, x1, x2, x3⟩ := hx
  obtain ⟨y0, y1, y2, y3⟩ := hy
  obtain ⟨h0, h1⟩ := hc
  cases hk : (x.Kind.toList == y.Kind.toList)
  · have hk2 : (y.Kind.toList == x.Kind.toList) = false := by simp only [beq_eq_false_iff_ne] at hk ⊢; exact fun e => hk e.symm
    have HG := hide (gap_diff (ch := ch) hk)
    by_cases hs : x.Start ≤ y.Start
    · have HR := hide (clash_le (ch := ch) hs)
      go_enter Try.func25, Try.ntmps25
      go_wp2

      go_ret
      exact ⟨by rw [HR.out, HG.out]; rfl, by first | exact IsX.alloc (IsX.alloc (IsX.refl _) _) _ | skip⟩
    · have HR := hide (clash_gt (ch := ch) hs)
      go_enter Try.func25, Try.ntmps25
      go_wp2

      go_ret
      exact ⟨by rw [HR.out, HG.out]; rfl, by first | exact IsX.alloc (IsX.alloc (IsX.refl _) _) _ | skip⟩
  · have hk2 : (y.Kind.toList == x.Kind.toList) = true := by simp only [beq_iff_eq] at hk ⊢; exact hk.symm
    have HG := hide (gap_same (ch := ch) hk)
    by_cases hs : x.Start ≤ y.Start
    · have HR := hide (clash_le (ch := ch) hs)
      go_enter Try.func25, Try.ntmps25
      go_wp2

      go_ret
      exact ⟨by rw [HR.out, HG.out]; simp, by first | exact IsX.alloc (IsX.alloc (IsX.refl _) _) _ | skip⟩
    · have HR := hide (clash_gt (ch := ch) hs)
      go_enter Try.func25, Try.ntmps25
      go_wp2

      go_ret
      exact ⟨by rw [HR.out, HG.out]; simp, by first | exact IsX.alloc (IsX.alloc (IsX.refl _) _) _ | skip⟩

theorem offers_small {xs : List OfferD} (h : offersB xs = true) : ∀ x ∈ xs, 0 ≤ x.Start ∧ x.Start ≤ 1440 ∧ 0 ≤ x.Length ∧ x.Length ≤ 1440 := fun x hx => by
  have := offers_ok h x hx; omega
/-- whether two offers of a list clash, by their indices -/
def clashAt (xs : List OfferD) (ch : Int) (j : Nat) (t : Int) : Bool := match xs[t.toNat]?, xs[j]? with
  | some a, some b => clashB a b ch
  | _, _ => false
theorem clash_at {xs : List OfferD} {ch : Int} {i j : Nat} {t : Int} (hi : i < xs.length) (hj : j < xs.length) (e : t = (i : Int)) : clashAt xs ch j t = clashB xs[i] xs[j] ch := by
  subst e
  simp only [clashAt, Int.toNat_natCast, List.getElem?_eq_getElem hi, List.getElem?_eq_getElem hj]

end Go.Proofs.Ytdedaoafihomoaa
