/- The stable order by insertion: the library's insertion sort over arrays, and lists. Conditions: none. -/
import Derived.Sort.WalkA
namespace Go.Proofs.YtmipphgekcdaoaaGreatDoor
set_option linter.unusedVariables false
open Go.RowKit Go.Sort

/-- the place of a new one among the first a of l: behind the last one that it does not go ahead of -/
def posR {α : Type} (g : α → Bool) (l : List α) : Nat → Nat
  | 0 => 0
  | a + 1 => if (match l[a]? with | some y => g y | none => false) = true then posR g l a else a + 1
def insR {α : Type} (lt : α → α → Bool) (l : List α) (x : α) : List α := l.take (posR (lt x) l l.length) ++ x :: l.drop (posR (lt x) l l.length)
def orderR {α : Type} (lt : α → α → Bool) (xs : List α) : List α := xs.foldl (insR lt) []
section
variable {α β : Type}
theorem posR_le (g : α → Bool) (l : List α) : ∀ a, posR g l a ≤ a
  | 0 => by simp [posR]
  | a + 1 => by
    have := posR_le g l a
    simp only [posR]
    generalize (match l[a]? with | some y => g y | none => false) = c
    cases c
    · simp
    · simp; omega
theorem posR_go {g : α → Bool} {l : List α} {a : Nat} (h : a < l.length) (hg : g l[a] = true) : posR g l (a + 1) = posR g l a := by simp [posR, List.getElem?_eq_getElem h, hg]
theorem posR_stop {g : α → Bool} {l : List α} {a : Nat} (h : a < l.length) (hg : g l[a] = false) : posR g l (a + 1) = a + 1 := by simp [posR, List.getElem?_eq_getElem h, hg]
theorem insR_len (lt : α → α → Bool) (l : List α) (x : α) : (insR lt l x).length = l.length + 1 := by
  have := posR_le (lt x) l l.length
  simp [insR]; omega
theorem insR_mem {lt : α → α → Bool} {l : List α} {x y : α} : y ∈ insR lt l x ↔ y = x ∨ y ∈ l := by
  have e := List.take_append_drop (posR (lt x) l l.length) l
  simp only [insR, List.mem_append, List.mem_cons]
  constructor
  · rintro (h | h | h)
    · exact .inr (List.mem_of_mem_take h)
    · exact .inl h
    · exact .inr (List.mem_of_mem_drop h)
  · rintro (h | h)
    · exact .inr (.inl h)
    · rw [← e] at h
      rcases List.mem_append.1 h with h | h
      · exact .inl h
      · exact .inr (.inr h)
theorem fold_insR_len (lt : α → α → Bool) : ∀ (xs l : List α), (xs.foldl (insR lt) l).length = l.length + xs.length
  | [], l => by simp
  | x :: xs, l => by
    rw [List.foldl_cons, fold_insR_len lt xs, insR_len]
    simp; omega
theorem fold_insR_mem {lt : α → α → Bool} : ∀ {xs l : List α} {y : α}, y ∈ xs.foldl (insR lt) l ↔ y ∈ l ∨ y ∈ xs
  | [], l, y => by simp
  | x :: xs, l, y => by
    rw [List.foldl_cons, fold_insR_mem, insR_mem]
    simp only [List.mem_cons]
    constructor
    · rintro ((h | h) | h)
      · exact .inr (.inl h)
      · exact .inl h
      · exact .inr (.inr h)
    · rintro (h | h | h)
      · exact .inl (.inr h)
      · exact .inl (.inl h)
      · exact .inr h
theorem orderR_len (lt : α → α → Bool) (xs : List α) : (orderR lt xs).length = xs.length := by simp [orderR, fold_insR_len]
theorem orderR_mem {lt : α → α → Bool} {xs : List α} {y : α} : y ∈ orderR lt xs ↔ y ∈ xs := by simp [orderR, fold_insR_mem]
theorem orderR_succ (lt : α → α → Bool) {xs : List α} {k : Nat} (h : k < xs.length) : orderR lt (xs.take (k + 1)) = insR lt (orderR lt (xs.take k)) xs[k] := by
  unfold orderR
  rw [List.take_succ_eq_append_getElem h, List.foldl_append]
  rfl
theorem posR_map (f : α → β) (g : β → Bool) (l : List α) : ∀ a, posR g (l.map f) a = posR (fun x => g (f x)) l a
  | 0 => rfl
  | a + 1 => by
    simp only [posR, List.getElem?_map, posR_map f g l a]
    cases l[a]? <;> simp
theorem insR_map (f : α → β) (lt : β → β → Bool) (l : List α) (x : α) : insR lt (l.map f) (f x) = (insR (fun a b => lt (f a) (f b)) l x).map f := by
  simp only [insR, List.length_map, posR_map, List.map_append, List.map_cons, List.map_take, List.map_drop]
theorem fold_map (f : α → β) (lt : β → β → Bool) : ∀ (xs l : List α), (xs.map f).foldl (insR lt) (l.map f) = (xs.foldl (insR (fun a b => lt (f a) (f b))) l).map f
  | [], l => rfl
  | x :: xs, l => by
    rw [List.map_cons, List.foldl_cons, List.foldl_cons, insR_map, fold_map f lt xs]
theorem orderR_map (f : α → β) (lt : β → β → Bool) (xs : List α) : orderR lt (xs.map f) = (orderR (fun a b => lt (f a) (f b)) xs).map f := fold_map f lt xs []
end
section
variable {α : Type} [Inhabited α] (lt : α → α → Bool)
theorem swp_mid (T R : List α) (a x : α) : swp (T ++ a :: x :: R).toArray (T.length + 1) T.length = (T ++ x :: a :: R).toArray := by
  have h1 : (T ++ a :: x :: R).toArray[T.length]! = a := by simp
  have h2 : (T ++ a :: x :: R).toArray[T.length + 1]! = x := by simp
  unfold swp
  rw [h1, h2]
  simp [List.set_append]
theorem inner_list (A B : List α) (x : α) : ∀ j, j ≤ A.length → insInner lt 0 j (A.take j ++ x :: (A.drop j ++ B)).toArray = (A.take (posR (lt x) A j) ++ x :: (A.drop (posR (lt x) A j) ++ B)).toArray
  | 0, _ => by simp [insInner, posR]
  | j + 1, h => by
    have hj : j < A.length := by omega
    have e : A.take (j + 1) ++ x :: (A.drop (j + 1) ++ B) = A.take j ++ A[j] :: x :: (A.drop (j + 1) ++ B) := by rw [List.take_succ_eq_append_getElem hj]; simp only [List.append_assoc, List.cons_append, List.nil_append]
    have hl : (A.take j).length = j := by simp; omega
    have g1 : (A.take (j + 1) ++ x :: (A.drop (j + 1) ++ B)).toArray[j + 1]! = x := by rw [e]; simp [List.getElem?_append, hl]
    have g2 : (A.take (j + 1) ++ x :: (A.drop (j + 1) ++ B)).toArray[j]! = A[j] := by rw [e]; simp [List.getElem?_append, hl]
    cases hg : lt x A[j]
    · rw [posR_stop hj hg, insInner, g1, g2, hg]
      simp
    · rw [posR_go hj hg, insInner, g1, g2, hg]
      have hs := swp_mid (A.take j) (A.drop (j + 1) ++ B) A[j] x
      rw [hl, ← e] at hs
      simp only [Nat.zero_lt_succ, decide_true, Bool.and_self, if_true, gt_iff_lt]
      rw [hs, show A.take j ++ x :: A[j] :: (A.drop (j + 1) ++ B) = A.take j ++ x :: (A.drop j ++ B) by rw [List.drop_eq_getElem_cons hj]; simp only [List.cons_append]]
      exact inner_list A B x j (by omega)
theorem outer_list : ∀ (R S : List α), insOuter lt 0 (S.length + R.length) S.length (S ++ R).toArray = (R.foldl (insR lt) S).toArray
  | [], S => by rw [insOuter]; simp
  | x :: R, S => by
    rw [insOuter_go _ _ _ _ _ (by simp)]
    have h := inner_list lt S R x S.length (Nat.le_refl _)
    simp only [List.take_length, List.drop_length, List.nil_append] at h
    rw [h, List.foldl_cons, ← outer_list R (insR lt S x), insR_len]
    simp only [insR, List.append_assoc, List.cons_append, List.length_cons]
    congr 1
    omega
theorem sort_list (xs : List α) : insertionSort lt xs.toArray 0 xs.length = (orderR lt xs).toArray := by
  cases xs with
  | nil => rw [insertionSort, insOuter]; simp [orderR]
  | cons x xs =>
    have := outer_list lt xs [x]
    rw [insertionSort]
    simp only [List.length_cons, List.length_nil, List.cons_append, List.nil_append] at this ⊢
    rw [show xs.length + 1 = 0 + 1 + xs.length by omega, this]
    rfl
end
end Go.Proofs.YtmipphgekcdaoaaGreatDoor
