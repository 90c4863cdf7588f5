/- Offers: what the search for the richest day finds. Plain Lean. Conditions: none. -/
import Derived.Test.YtdedaoafihomoaaIsDay
import Derived.Test.YtdedaoafihomoaaHunt
namespace Go.Proofs.Ytdedaoafihomoaa
set_option linter.unusedVariables false
theorem offers_len' {xs : List OfferD} (h : offersB xs = true) : xs.length ≤ 16 := by
  simp only [offersB, Bool.and_eq_true, decide_eq_true_eq] at h; exact h.1
theorem offersB_ok {xs : List OfferD} (h : offersB xs = true) : xs.length ≤ 16 ∧ ∀ x ∈ xs, 0 ≤ x.Worth ∧ x.Worth ≤ 10000 := by
  simp only [offersB, Bool.and_eq_true, decide_eq_true_eq] at h
  refine ⟨h.1, fun x hx => ?_⟩
  have := allGood_ok h.2 x hx
  simp only [OfferD.okB, Bool.and_eq_true] at this
  have h3 := inB_true.1 this.2
  omega

def sumWor (xs : List OfferD) : Int := (xs.map (·.Worth)).sum
theorem sumWor_cons (x : OfferD) (xs : List OfferD) : sumWor (x :: xs) = x.Worth + sumWor xs := by simp [sumWor]
theorem sumWor_drop (xs : List OfferD) (i : Nat) (h : i < xs.length) : sumWor (xs.drop i) = xs[i].Worth + sumWor (xs.drop (i + 1)) := by
  rw [List.drop_eq_getElem_cons h, sumWor_cons]
theorem sumWor_bd : ∀ (xs : List OfferD), (∀ x ∈ xs, 0 ≤ x.Worth ∧ x.Worth ≤ 10000) → 0 ≤ sumWor xs ∧ sumWor xs ≤ xs.length * 10000
  | [], _ => by simp [sumWor]
  | x :: xs, h => by
    have h1 := sumWor_bd xs (fun y hy => h y (List.mem_cons_of_mem _ hy))
    have h2 := h x List.mem_cons_self
    rw [sumWor_cons]
    simp only [List.length_cons]
    omega
theorem sumWor_take (xs : List OfferD) (k : Nat) (h : k < xs.length) : sumWor (xs.take (k + 1)) = sumWor (xs.take k) + xs[k].Worth := by
  simp only [sumWor, List.take_succ_eq_append_getElem h, List.map_append, List.sum_append, List.map_cons, List.map_nil, List.sum_cons, List.sum_nil, Int.add_zero]

def offerAt (xs : List OfferD) (i : Nat) : OfferD := xs.getD i ⟨⟨#[]⟩, ⟨#[]⟩, 0, 0, 0⟩
theorem offerAt_eq {xs : List OfferD} {i : Nat} (h : i < xs.length) : offerAt xs i = xs[i] := by simp [offerAt, List.getD_eq_getElem?_getD, List.getElem?_eq_getElem h]
def richHunt (xs : List OfferD) (ch : Int) : Hunt where
  n := xs.length
  takes i sum _ taken most := !(taken.any (clashAt xs ch i)) && decide (most < sum + sumWor (xs.drop i))
  leaves i sum _ most := decide (most < sum + sumWor (xs.drop (i + 1)))
  g1 i := (offerAt xs i).Worth
  g2 i := 0
  leaf sum _ most := decide (most < sum)

/-- what the search answers -/
def richGot (xs : List OfferD) (lost budget : Int) : Got := hunt (richHunt xs lost) xs.length [] 0 0 ⟨[], -1, budget.toNat, false⟩
def richAns (xs : List OfferD) (lost budget : Int) : List Int × Int × Int :=
  if offersB xs = true then
    if inB lost 0 240 = true ∧ inB budget 1 20000 = true then
      if (richGot xs lost budget).full = true then ([], 0, 5) else ((richGot xs lost budget).best, (richGot xs lost budget).most, 0)
    else ([], 0, 2)
  else ([], 0, 1)
theorem richAns_bad {xs : List OfferD} {lost bud : Int} (h : offersB xs = false) : richAns xs lost bud = ([], 0, 1) := by simp [richAns, h]
theorem richAns_range {xs : List OfferD} {lost bud : Int} (h : offersB xs = true) (hr : ¬ (inB lost 0 240 = true ∧ inB bud 1 20000 = true)) : richAns xs lost bud = ([], 0, 2) := by
  unfold richAns; rw [if_pos h, if_neg hr]
theorem richAns_go {xs : List OfferD} {lost bud : Int} (h : offersB xs = true) (hr : inB lost 0 240 = true ∧ inB bud 1 20000 = true) : richAns xs lost bud = (if (richGot xs lost bud).full = true then ([], 0, 5)
      else ((richGot xs lost bud).best, (richGot xs lost bud).most, 0)) := by
  unfold richAns; rw [if_pos h, if_pos hr]
theorem richAns_len (xs : List OfferD) (lost budget : Int) : (richAns xs lost budget).1.length ≤ 1099511627776 := by
  unfold richAns
  split
  case isFalse => simp
  rename_i hv
  split
  case isFalse => simp
  split
  · simp
  have h16 : xs.length ≤ 16 := offers_len' hv
  have := hunt_keeps (richHunt xs lost) (fun l _ => l.length ≤ xs.length) (fun i l _ _ => l.length ≤ i) (fun ch a b h => h) (fun i ch a b m hi h _ => by simp; omega) (fun i ch a b hi h => by omega)
    xs.length [] 0 0 ⟨[], -1, budget.toNat, false⟩ (Nat.le_refl _) (by simp) (by simp)
  simp only [richGot] at this ⊢
  omega
end Go.Proofs.Ytdedaoafihomoaa
