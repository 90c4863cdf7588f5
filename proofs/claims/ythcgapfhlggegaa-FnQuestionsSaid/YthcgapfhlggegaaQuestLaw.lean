/- Questions: when a list of questions is valid, and what the search for the best ones finds. Plain Lean. Conditions: none. -/
import Derived.Test.YthcgapfhlggegaaFlatQuestion
import Derived.Test.YthcgapfhlggegaaNames
import Derived.Test.YthcgapfhlggegaaLists
import Derived.Test.YthcgapfhlggegaaHunt
namespace Go.Proofs.Ythcgapfhlggegaa
set_option linter.unusedVariables false

def QuestionD.okB (x : QuestionD) : Bool := nameB x.Id && inB x.Arrived 0 40000000 && inB x.Length 1 1800000 && inB x.Priority 1 100
def QuestionD.geB (y x : QuestionD) : Bool := !(Op.bytesLess y.Id.toList x.Id.toList)
def questsB (xs : List QuestionD) : Bool := decide (xs.length ≤ 16) && allGood QuestionD.okB QuestionD.geB xs
theorem quests_len {xs : List QuestionD} (h : questsB xs = true) : xs.length ≤ 16 := by
  simp only [questsB, Bool.and_eq_true, decide_eq_true_eq] at h; exact h.1
theorem questsB_ok {xs : List QuestionD} (h : questsB xs = true) : xs.length ≤ 16 ∧ ∀ x ∈ xs, 1 ≤ x.Length ∧ x.Length ≤ 1800000 ∧ 1 ≤ x.Priority ∧ x.Priority ≤ 100 := by
  simp only [questsB, Bool.and_eq_true, decide_eq_true_eq] at h
  refine ⟨h.1, fun x hx => ?_⟩
  have := allGood_ok h.2 x hx
  simp only [QuestionD.okB, Bool.and_eq_true] at this
  have h2 := inB_true.1 this.1.2
  have h3 := inB_true.1 this.2
  omega

def sumPri (xs : List QuestionD) : Int := (xs.map (·.Priority)).sum
theorem sumPri_cons (x : QuestionD) (xs : List QuestionD) : sumPri (x :: xs) = x.Priority + sumPri xs := by simp [sumPri]
theorem sumPri_drop (xs : List QuestionD) (i : Nat) (h : i < xs.length) : sumPri (xs.drop i) = xs[i].Priority + sumPri (xs.drop (i + 1)) := by
  rw [List.drop_eq_getElem_cons h, sumPri_cons]
theorem sumPri_bd : ∀ (xs : List QuestionD), (∀ x ∈ xs, 0 ≤ x.Priority ∧ x.Priority ≤ 100) → 0 ≤ sumPri xs ∧ sumPri xs ≤ xs.length * 100
  | [], _ => by simp [sumPri]
  | x :: xs, h => by
    have h1 := sumPri_bd xs (fun y hy => h y (List.mem_cons_of_mem _ hy))
    have h2 := h x List.mem_cons_self
    rw [sumPri_cons]
    simp only [List.length_cons]
    omega
theorem sumPri_take (xs : List QuestionD) (k : Nat) (h : k < xs.length) : sumPri (xs.take (k + 1)) = sumPri (xs.take k) + xs[k].Priority := by
  simp only [sumPri, List.take_succ_eq_append_getElem h, List.map_append, List.sum_append, List.map_cons, List.map_nil, List.sum_cons, List.sum_nil, Int.add_zero]

def questAt (xs : List QuestionD) (i : Nat) : QuestionD := xs.getD i ⟨⟨#[]⟩, 0, 0, 0⟩
theorem questAt_eq {xs : List QuestionD} {i : Nat} (h : i < xs.length) : questAt xs i = xs[i] := by simp [questAt, List.getD_eq_getElem?_getD, List.getElem?_eq_getElem h]
def questHunt (xs : List QuestionD) (tm : Int) : Hunt where
  n := xs.length
  takes i sum used _ most := decide (used + (questAt xs i).Length ≤ tm) && decide (most < sum + sumPri (xs.drop i))
  leaves i sum used most := decide (most < sum + sumPri (xs.drop (i + 1)))
  g1 i := (questAt xs i).Priority
  g2 i := (questAt xs i).Length
  leaf sum used most := decide (most < sum)

/-- what the search answers -/
def questGot (xs : List QuestionD) (lost budget : Int) : Got := hunt (questHunt xs lost) xs.length [] 0 0 ⟨[], -1, budget.toNat, false⟩
def questAns (xs : List QuestionD) (lost budget : Int) : List Int × Int × Int :=
  if questsB xs = true then
    if 0 ≤ lost ∧ inB budget 1 20000 = true then
      if (questGot xs lost budget).full = true then ([], 0, 5) else ((questGot xs lost budget).best, (questGot xs lost budget).most, 0)
    else ([], 0, 2)
  else ([], 0, 1)
theorem questAns_bad {xs : List QuestionD} {lost bud : Int} (h : questsB xs = false) : questAns xs lost bud = ([], 0, 1) := by simp [questAns, h]
theorem questAns_range {xs : List QuestionD} {lost bud : Int} (h : questsB xs = true) (hr : ¬ (0 ≤ lost ∧ inB bud 1 20000 = true)) : questAns xs lost bud = ([], 0, 2) := by
  unfold questAns; rw [if_pos h, if_neg hr]
theorem questAns_go {xs : List QuestionD} {lost bud : Int} (h : questsB xs = true) (hr : 0 ≤ lost ∧ inB bud 1 20000 = true) : questAns xs lost bud = (if (questGot xs lost bud).full = true then ([], 0, 5)
      else ((questGot xs lost bud).best, (questGot xs lost bud).most, 0)) := by
  unfold questAns; rw [if_pos h, if_pos hr]
theorem questAns_len (xs : List QuestionD) (lost budget : Int) : (questAns xs lost budget).1.length ≤ 1099511627776 := by
  unfold questAns
  split
  case isFalse => simp
  rename_i hv
  split
  case isFalse => simp
  split
  · simp
  have h16 : xs.length ≤ 16 := quests_len hv
  have := hunt_keeps (questHunt xs lost) (fun l _ => l.length ≤ xs.length) (fun i l _ _ => l.length ≤ i) (fun ch a b h => h) (fun i ch a b m hi h _ => by simp; omega) (fun i ch a b hi h => by omega)
    xs.length [] 0 0 ⟨[], -1, budget.toNat, false⟩ (Nat.le_refl _) (by simp) (by simp)
  simp only [questGot] at this ⊢
  omega
end Go.Proofs.Ythcgapfhlggegaa
