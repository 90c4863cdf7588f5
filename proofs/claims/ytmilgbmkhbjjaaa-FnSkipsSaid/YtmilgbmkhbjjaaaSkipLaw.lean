/- Skips: when a list of skips is valid, and what the search for the best ones finds. Plain Lean. Conditions: none. -/
import Derived.Test.YtmilgbmkhbjjaaaFlatSkip
import Derived.Test.YtmilgbmkhbjjaaaNames
import Derived.Test.YtmilgbmkhbjjaaaLists
import Derived.Test.YtmilgbmkhbjjaaaHunt
namespace Go.Proofs.Ytmilgbmkhbjjaaa
set_option linter.unusedVariables false

def SkipD.okB (x : SkipD) : Bool := inB x.From 0 7200000 && inB x.Length 1 1800000 && decide (x.From + x.Length ≤ 7200000) && inB x.Loss 0 1000
def SkipD.geB (y x : SkipD) : Bool := decide (x.From < y.From + y.Length)
def skipsB (xs : List SkipD) : Bool := decide (xs.length ≤ 12) && allGood SkipD.okB SkipD.geB xs
theorem skipsB_ok {xs : List SkipD} (h : skipsB xs = true) : xs.length ≤ 12 ∧ ∀ x ∈ xs, 0 ≤ x.From ∧ x.From ≤ 7200000 ∧ 1 ≤ x.Length ∧ x.Length ≤ 1800000 ∧ x.From + x.Length ≤ 7200000 ∧ 0 ≤ x.Loss ∧ x.Loss ≤ 1000 := by
  simp only [skipsB, Bool.and_eq_true, decide_eq_true_eq] at h
  refine ⟨h.1, fun x hx => ?_⟩
  have := allGood_ok h.2 x hx
  simp only [SkipD.okB, Bool.and_eq_true, decide_eq_true_eq] at this
  have h1 := inB_true.1 this.1.1.1
  have h2 := inB_true.1 this.1.1.2
  have h3 := inB_true.1 this.2
  omega

def sumLen (xs : List SkipD) : Int := (xs.map (·.Length)).sum
theorem sumLen_cons (x : SkipD) (xs : List SkipD) : sumLen (x :: xs) = x.Length + sumLen xs := by simp [sumLen]
theorem sumLen_drop (xs : List SkipD) (i : Nat) (h : i < xs.length) : sumLen (xs.drop i) = xs[i].Length + sumLen (xs.drop (i + 1)) := by
  rw [List.drop_eq_getElem_cons h, sumLen_cons]
theorem sumLen_bd : ∀ (xs : List SkipD), (∀ x ∈ xs, 0 ≤ x.Length ∧ x.Length ≤ 1800000) → 0 ≤ sumLen xs ∧ sumLen xs ≤ xs.length * 1800000
  | [], _ => by simp [sumLen]
  | x :: xs, h => by
    have h1 := sumLen_bd xs (fun y hy => h y (List.mem_cons_of_mem _ hy))
    have h2 := h x List.mem_cons_self
    rw [sumLen_cons]
    simp only [List.length_cons]
    omega
theorem sumLen_take (xs : List SkipD) (k : Nat) (h : k < xs.length) : sumLen (xs.take (k + 1)) = sumLen (xs.take k) + xs[k].Length := by
  simp only [sumLen, List.take_succ_eq_append_getElem h, List.map_append, List.sum_append, List.map_cons, List.map_nil, List.sum_cons, List.sum_nil, Int.add_zero]
def skipAt (xs : List SkipD) (i : Nat) : SkipD := xs.getD i ⟨0, 0, 0⟩
theorem skipAt_eq {xs : List SkipD} {i : Nat} (h : i < xs.length) : skipAt xs i = xs[i] := by simp [skipAt, List.getD_eq_getElem?_getD, List.getElem?_eq_getElem h]
/-- a sum that is still worth it -/
def lessB (least loss : Int) : Bool := !(decide (0 ≤ least) && decide (least ≤ loss))
def skipHunt (xs : List SkipD) (lost : Int) : Hunt where
  n := xs.length
  takes i loss length _ least := lessB least (loss + (skipAt xs i).Loss) && decide (lost ≤ length + sumLen (xs.drop i))
  leaves i loss length least := lessB least loss && decide (lost ≤ length + sumLen (xs.drop (i + 1)))
  g1 i := (skipAt xs i).Loss
  g2 i := (skipAt xs i).Length
  leaf loss length least := decide (lost ≤ length) && lessB least loss
def skipGot (xs : List SkipD) (lost budget : Int) : Got := hunt (skipHunt xs lost) xs.length [] 0 0 ⟨[], -1, budget.toNat, false⟩
/-- what BestSkips answers -/
def skipAns (xs : List SkipD) (lost budget : Int) : List Int × Int × Int :=
  if skipsB xs = true then
    if 0 ≤ lost ∧ inB budget 1 20000 = true then
      if (skipGot xs lost budget).full = true then ([], 0, 5)
      else if (skipGot xs lost budget).most < 0 then ([], 0, 3) else ((skipGot xs lost budget).best, (skipGot xs lost budget).most, 0)
    else ([], 0, 2)
  else ([], 0, 1)
theorem skipAns_bad {xs : List SkipD} {lost bud : Int} (h : skipsB xs = false) : skipAns xs lost bud = ([], 0, 1) := by simp [skipAns, h]
theorem skipAns_range {xs : List SkipD} {lost bud : Int} (h : skipsB xs = true) (hr : ¬ (0 ≤ lost ∧ inB bud 1 20000 = true)) : skipAns xs lost bud = ([], 0, 2) := by
  unfold skipAns; rw [if_pos h, if_neg hr]
theorem skipAns_go {xs : List SkipD} {lost bud : Int} (h : skipsB xs = true) (hr : 0 ≤ lost ∧ inB bud 1 20000 = true) : skipAns xs lost bud = (if (skipGot xs lost bud).full = true then ([], 0, 5)
      else if (skipGot xs lost bud).most < 0 then ([], 0, 3) else ((skipGot xs lost bud).best, (skipGot xs lost bud).most, 0)) := by
  unfold skipAns; rw [if_pos h, if_pos hr]
theorem skipAns_len (xs : List SkipD) (lost budget : Int) : (skipAns xs lost budget).1.length ≤ 1099511627776 := by
  unfold skipAns
  split
  case isFalse => simp
  rename_i hv
  split
  case isFalse => simp
  split
  · simp
  split
  · simp
  have h12 := (skipsB_ok hv).1
  have := hunt_keeps (skipHunt xs lost) (fun l _ => l.length ≤ xs.length) (fun i l _ _ => l.length ≤ i) (fun ch a b h => h) (fun i ch a b m hi h _ => by simp; omega) (fun i ch a b hi h => by omega)
    xs.length [] 0 0 ⟨[], -1, budget.toNat, false⟩ (Nat.le_refl _) (by simp) (by simp)
  simp only [skipGot] at this ⊢
  omega
end Go.Proofs.Ytmilgbmkhbjjaaa
