/- Plain lists: an order that is tested element by element. Conditions: none. -/
namespace Go.Proofs.Ytjdlennibfnhpaa

def goodAt {α : Type} (ok : α → Bool) (ge : α → α → Bool) (xs : List α) : Nat → Bool
  | 0 => match xs[0]? with | none => true | some x => ok x
  | i + 1 => match xs[i + 1]? with | none => true | some x => ok x && (match xs[i]? with | none => true | some y => !(ge y x))
def allGood {α : Type} (ok : α → Bool) (ge : α → α → Bool) (xs : List α) : Bool := (List.range xs.length).all (goodAt ok ge xs)
section
variable {α : Type} {ok : α → Bool} {ge : α → α → Bool} {xs : List α}
theorem good_zero {h : 0 < xs.length} (ho : ok xs[0] = true) : goodAt ok ge xs 0 = true := by simp [goodAt, List.getElem?_eq_getElem h, ho]
theorem good_succ {i : Nat} {h : i + 1 < xs.length} (ho : ok xs[i + 1] = true) (hg : ge (xs[i]'(by omega)) xs[i + 1] = false) : goodAt ok ge xs (i + 1) = true := by
  simp [goodAt, List.getElem?_eq_getElem h, List.getElem?_eq_getElem (show i < xs.length by omega), ho, hg]
theorem bad_ok {i : Nat} {h : i < xs.length} (ho : ok xs[i] = false) : allGood ok ge xs = false := by
  simp only [allGood, List.all_eq_false]
  refine ⟨i, by simpa using h, ?_⟩
  cases i <;> simp [goodAt, List.getElem?_eq_getElem h, ho]
theorem bad_ge {i : Nat} {h : i + 1 < xs.length} (hg : ge (xs[i]'(by omega)) xs[i + 1] = true) : allGood ok ge xs = false := by
  simp only [allGood, List.all_eq_false]
  refine ⟨i + 1, by simpa using h, ?_⟩
  simp [goodAt, List.getElem?_eq_getElem h, List.getElem?_eq_getElem (show i < xs.length by omega), hg]
theorem all_good (h : ∀ i, i < xs.length → goodAt ok ge xs i = true) : allGood ok ge xs = true := by
  simp only [allGood, List.all_eq_true]
  intro i hi
  exact h i (by simpa using hi)
theorem good_step {k : Nat} (h : ∀ i, i < k → goodAt ok ge xs i = true) (hk : goodAt ok ge xs k = true) : ∀ i, i < k + 1 → goodAt ok ge xs i = true := by
  intro i hi
  by_cases e : i = k
  · subst e; exact hk
  · exact h i (by omega)
theorem allGood_ok (h : allGood ok ge xs = true) : ∀ x ∈ xs, ok x = true := by
  intro x hx
  obtain ⟨i, hi, rfl⟩ := List.getElem_of_mem hx
  simp only [allGood, List.all_eq_true] at h
  have := h i (by simpa using hi)
  cases i with
  | zero => simpa [goodAt, List.getElem?_eq_getElem hi] using this
  | succ j =>
    simp only [goodAt, List.getElem?_eq_getElem hi, Bool.and_eq_true] at this
    exact this.1
theorem allGood_lt (h : allGood ok ge xs = true) {i : Nat} (hi : i + 1 < xs.length) : ge (xs[i]'(by omega)) xs[i + 1] = false := by
  simp only [allGood, List.all_eq_true] at h
  have := h (i + 1) (by simpa using hi)
  simp only [goodAt, List.getElem?_eq_getElem hi, List.getElem?_eq_getElem (show i < xs.length by omega), Bool.and_eq_true, Bool.not_eq_true'] at this
  exact this.2
end
end Go.Proofs.Ytjdlennibfnhpaa
