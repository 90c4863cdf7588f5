/- Plain lists: an order that is tested element by element. Conditions: none. -/
namespace Go.Proofs.YtmipphgekcdaoaaGreatDoor
set_option linter.unusedVariables false

def goodAt {α : Type} (ok : α → Bool) (ge : α → α → Bool) (xs : List α) : Nat → Bool
  | 0 => match xs[0]? with | none => true | some x => ok x
  | i + 1 => match xs[i + 1]? with | none => true | some x => ok x && (match xs[i]? with | none => true | some y => !(ge y x))
def allGood {α : Type} (ok : α → Bool) (ge : α → α → Bool) (xs : List α) : Bool := (List.range xs.length).all (goodAt ok ge xs)
section
variable {α : Type} {ok : α → Bool} {ge : α → α → Bool} {xs : List α}
theorem good_zero {h : 0 < xs.length} (ho : ok xs[0] = true) : goodAt ok ge xs 0 = true := by simp [goodAt, List.getElem?_eq_getElem h, ho]
theorem good_succ {i : Nat} {h : i + 1 < xs.length} (ho : ok xs[i + 1] = true) (hg : ge (xs[i]'(by omega)) xs[i + 1] = false) : goodAt ok ge xs (i + 1) = true := by
  simp [goodAt, List.getElem?_eq_getElem h, List.getElem?_eq_getElem (show i < xs.length by omega), ho, hg]
theorem bad_ok {i : Nat} {h : i < xs.length} (ho : ok xs[i] = false) : allGood ok ge xs = false := by
  simp only [allGood, List.all_eq_false]
  refine ⟨i, by simpa using h, ?_⟩
  cases i <;> simp [goodAt, List.getElem?_eq_getElem h, ho]
theorem bad_ge {i : Nat} {h : i + 1 < xs.length} (hg : ge (xs[i]'(by omega)) xs[i + 1] = true) : allGood ok ge xs = false := by
  simp only [allGood, List.all_eq_false]
  refine ⟨i + 1, by simpa using h, ?_⟩
  simp [goodAt, List.getElem?_eq_getElem h, List.getElem?_eq_getElem (show i < xs.length by omega), hg]
theorem all_good (h : ∀ i, i < xs.length → goodAt ok ge xs i = true) : allGood ok ge xs = true := by
  simp only [allGood, List.all_eq_true]
  intro i hi
  exact h i (by simpa using hi)
theorem good_step {k : Nat} (h : ∀ i, i < k → goodAt ok ge xs i = true) (hk : goodAt ok ge xs k = true) : ∀ i, i < k + 1 → goodAt ok ge xs i = true := by
  intro i hi
  by_cases e : i = k
  · subst e; exact hk
  · exact h i (by omega)
theorem allGood_ok (h : allGood ok ge xs = true) : ∀ x ∈ xs, ok x = true := by
  intro x hx
  obtain ⟨i, hi, rfl⟩ := List.getElem_of_mem hx
  simp only [allGood, List.all_eq_true] at h
  have := h i (by simpa using hi)
  cases i with
  | zero => simpa [goodAt, List.getElem?_eq_getElem hi] using this
  | succ j =>
    simp only [goodAt, List.getElem?_eq_getElem hi, Bool.and_eq_true] at this
    exact this.1
theorem allGood_lt (h : allGood ok ge xs = true) {i : Nat} (hi : i + 1 < xs.length) : ge (xs[i]'(by omega)) xs[i + 1] = false := by
  simp only [allGood, List.all_eq_true] at h
  have := h (i + 1) (by simpa using hi)
  simp only [goodAt, List.getElem?_eq_getElem hi, List.getElem?_eq_getElem (show i < xs.length by omega), Bool.and_eq_true, Bool.not_eq_true'] at this
  exact this.2
end
/-- a value that is turned once for each index -/
def upTo {σ : Type} (f : Nat → σ → σ) (s0 : σ) : Nat → σ
  | 0 => s0
  | k + 1 => f k (upTo f s0 k)
theorem upTo_succ {σ : Type} (f : Nat → σ → σ) (s0 : σ) (k : Nat) : upTo f s0 (k + 1) = f k (upTo f s0 k) := rfl
/-- the first index at which p holds, or -1 -/
def idxI {α : Type} (p : α → Bool) (xs : List α) : Int := match xs.findIdx? p with | some i => (i : Int) | none => -1
theorem idxI_at {α : Type} {p : α → Bool} {xs : List α} {k : Nat} (hk : k < xs.length) (hb : ∀ i (h : i < xs.length), i < k → p xs[i] = false) (hp : p xs[k] = true) : idxI p xs = k := by
  have : xs.findIdx? p = some k := by
    rw [List.findIdx?_eq_some_iff_getElem]
    exact ⟨hk, hp, fun j hj => by simp [hb j (by omega) hj]⟩
  simp [idxI, this]
theorem idxI_none {α : Type} {p : α → Bool} {xs : List α} (hb : ∀ i (h : i < xs.length), p xs[i] = false) : idxI p xs = -1 := by
  have : xs.findIdx? p = none := by
    rw [List.findIdx?_eq_none_iff]
    intro x hx
    obtain ⟨i, hi, rfl⟩ := List.getElem_of_mem hx
    exact hb i hi
  simp [idxI, this]
theorem idxI_ge {α : Type} (p : α → Bool) (xs : List α) : -1 ≤ idxI p xs ∧ idxI p xs < xs.length ∧ decide (0 ≤ idxI p xs) = xs.any p := by
  unfold idxI
  cases h : xs.findIdx? p with
  | some i =>
    rw [List.findIdx?_eq_some_iff_getElem] at h
    obtain ⟨hi, hp, _⟩ := h
    refine ⟨by simp only; omega, by simp only; omega, ?_⟩
    rw [decide_eq_true (by simp : (0 : Int) ≤ (i : Int))]
    symm; rw [List.any_eq_true]; exact ⟨xs[i], List.getElem_mem hi, hp⟩
  | none =>
    rw [List.findIdx?_eq_none_iff] at h
    refine ⟨by simp, by simp; omega, ?_⟩
    rw [decide_eq_false (by simp : ¬ (0 : Int) ≤ -1)]
    symm; rw [List.any_eq_false]; intro x hx; simpa using h x hx
theorem step_all {α : Type} {p : α → Bool} {b : Bool} {xs : List α} {k : Nat} (hk : k < xs.length) (h : ∀ i (h : i < xs.length), i < k → p xs[i] = b) (hp : p xs[k] = b) : ∀ i (h : i < xs.length), i < k + 1 → p xs[i] = b := by
  intro i hi hik
  by_cases e : i = k
  · subst e; exact hp
  · exact h i hi (by omega)
theorem all_of {α : Type} {p : α → Bool} {xs : List α} (h : ∀ i (h : i < xs.length), p xs[i] = true) : xs.all p = true := by
  rw [List.all_eq_true]; intro x hx
  obtain ⟨i, hi, rfl⟩ := List.getElem_of_mem hx
  exact h i hi
theorem all_not {α : Type} {p : α → Bool} {xs : List α} {k : Nat} (hk : k < xs.length) (h : p xs[k] = false) : xs.all p = false := by
  rw [List.all_eq_false]; exact ⟨xs[k], List.getElem_mem hk, by simp [h]⟩
theorem any_not_all {α : Type} (p : α → Bool) (xs : List α) : xs.any (fun x => !p x) = !xs.all p := by
  induction xs with
  | nil => rfl
  | cons x xs ih => simp only [List.any_cons, List.all_cons, ih]; cases p x <;> simp
/-- two lists, equal in length and element by element -/
def sameB {α : Type} (eq : α → α → Bool) (xs ys : List α) : Bool := decide (xs.length = ys.length) && (xs.zip ys).all fun p => eq p.1 p.2
theorem same_len {α : Type} {eq : α → α → Bool} {xs ys : List α} (h : ¬ xs.length = ys.length) : sameB eq xs ys = false := by rw [sameB, decide_eq_false h]; rfl
theorem same_not {α : Type} {eq : α → α → Bool} {xs ys : List α} {k : Nat} (h : k < xs.length) (h' : k < ys.length) (hq : eq xs[k] ys[k] = false) : sameB eq xs ys = false := by
  have : (xs.zip ys).all (fun p => eq p.1 p.2) = false := by
    have hk : k < (xs.zip ys).length := by simp; omega
    exact all_not hk (by simp [hq])
  rw [sameB, this, Bool.and_false]
theorem same_step {α : Type} {eq : α → α → Bool} {xs ys : List α} {k : Nat} (_h : k < xs.length) (_h' : k < ys.length) (ha : ∀ i (h : i < xs.length) (h' : i < ys.length), i < k → eq xs[i] ys[i] = true) (hq : eq xs[k] ys[k] = true) :
    ∀ i (h : i < xs.length) (h' : i < ys.length), i < k + 1 → eq xs[i] ys[i] = true := by
  intro i hi hi' hik
  by_cases e : i = k
  · subst e; exact hq
  · exact ha i hi hi' (by omega)
theorem same_all {α : Type} {eq : α → α → Bool} {xs ys : List α} (hl : xs.length = ys.length) (ha : ∀ i (h : i < xs.length) (h' : i < ys.length), eq xs[i] ys[i] = true) : sameB eq xs ys = true := by
  have : (xs.zip ys).all (fun p => eq p.1 p.2) = true := all_of (fun i h => by simp at h; simp [ha i (by omega) (by omega)])
  rw [sameB, this, decide_eq_true hl]; rfl
end Go.Proofs.YtmipphgekcdaoaaGreatDoor
