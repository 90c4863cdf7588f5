/- Numbers put into a rising list one by one, and the sorted whole: plain lists. Conditions: told with each. -/
import Derived.Test.YtfcfgkkkepifhaaGreatDoorOpenSeatsFns
namespace Go.Proofs.YtfcfgkkkepifhaaGreatDoor
set_option linter.unusedVariables false
open Go.RowKit

/-- k in its place among xs, once -/
def insK : List Int → Int → List Int
  | [], k => [k]
  | x :: xs, k => if k ≤ x then (if k < x then k :: x :: xs else x :: xs) else x :: insK xs k
def putStep (k : Int) (s : Bool × List Int) (x : Int) : Bool × List Int :=
  if s.1 = false ∧ k ≤ x then (true, if k < x then s.2 ++ [k] ++ [x] else s.2 ++ [x]) else (s.1, s.2 ++ [x])
def putTo (xs : List Int) (k : Int) (i : Nat) : Bool × List Int := (xs.take i).foldl (putStep k) (false, [])
theorem putTo_zero (xs : List Int) (k : Int) : putTo xs k 0 = (false, []) := by simp [putTo]
theorem putTo_succ (xs : List Int) (k : Int) {i : Nat} (h : i < xs.length) : putTo xs k (i + 1) = putStep k (putTo xs k i) xs[i] := by
  unfold putTo
  rw [List.take_succ_eq_append_getElem h, List.foldl_append]
  rfl
theorem fold_true (k : Int) : ∀ (xs acc : List Int), xs.foldl (putStep k) (true, acc) = (true, acc ++ xs)
  | [], acc => by simp
  | x :: xs, acc => by
    rw [List.foldl_cons, show putStep k (true, acc) x = (true, acc ++ [x]) from by simp [putStep], fold_true k xs]
    simp
theorem fold_false (k : Int) : ∀ (xs acc : List Int), (if (xs.foldl (putStep k) (false, acc)).1 then (xs.foldl (putStep k) (false, acc)).2 else (xs.foldl (putStep k) (false, acc)).2 ++ [k]) = acc ++ insK xs k
  | [], acc => by simp [insK]
  | x :: xs, acc => by
    rw [List.foldl_cons]
    by_cases h : k ≤ x
    · by_cases h2 : k < x
      · rw [show putStep k (false, acc) x = (true, acc ++ [k] ++ [x]) from by simp [putStep, h, h2], fold_true]
        simp [insK, h, h2]
      · rw [show putStep k (false, acc) x = (true, acc ++ [x]) from by simp [putStep, h, h2], fold_true]
        simp [insK, h, h2]
    · rw [show putStep k (false, acc) x = (false, acc ++ [x]) from by simp [putStep, h], fold_false k xs]
      simp [insK, h]
theorem put_done {xs : List Int} {k : Int} (h : (putTo xs k xs.length).1 = true) : (putTo xs k xs.length).2 = insK xs k := by
  have := fold_false k xs []
  simp only [putTo, List.take_length] at h ⊢
  rw [h] at this
  simpa using this
theorem put_last {xs : List Int} {k : Int} (h : (putTo xs k xs.length).1 = false) : (putTo xs k xs.length).2 ++ [k] = insK xs k := by
  have := fold_false k xs []
  simp only [putTo, List.take_length] at h ⊢
  rw [h] at this
  simpa using this
theorem put_len (xs : List Int) (k : Int) : ∀ i, i ≤ xs.length → (putTo xs k i).2.length ≤ i + (if (putTo xs k i).1 then 1 else 0)
  | 0, _ => by simp [putTo]
  | i + 1, h => by
    have ih := put_len xs k i (by omega)
    rw [putTo_succ xs k (by omega)]
    generalize putTo xs k i = s at ih ⊢
    rcases s with ⟨b, l⟩
    simp only [putStep]
    cases b
    · by_cases h1 : k ≤ xs[i]
      · by_cases h2 : k < xs[i] <;> simp [h1, h2] <;> simp at ih <;> omega
      · simp [h1]; simp at ih; omega
    · simp at ih ⊢; omega
theorem insK_len : ∀ (xs : List Int) (k : Int), (insK xs k).length ≤ xs.length + 1
  | [], k => by simp [insK]
  | x :: xs, k => by
    have := insK_len xs k
    simp only [insK]
    split
    · split <;> simp
    · simp; omega
theorem insK_mem : ∀ {xs : List Int} {k y : Int}, y ∈ insK xs k → y = k ∨ y ∈ xs
  | [], k, y, h => by simp [insK] at h; exact .inl h
  | x :: xs, k, y, h => by
    simp only [insK] at h
    split at h
    · split at h
      · simpa using h
      · exact .inr h
    · simp only [List.mem_cons] at h ⊢
      rcases h with h | h
      · exact .inr (.inl h)
      · rcases insK_mem h with h | h
        · exact .inl h
        · exact .inr (.inr h)
theorem insK_perm : ∀ {xs : List Int} {k : Int}, k ∉ xs → (insK xs k).Perm (k :: xs)
  | [], k, _ => by simp [insK]
  | x :: xs, k, h => by
    simp only [List.mem_cons, not_or] at h
    simp only [insK]
    split
    · rw [if_pos (by omega)]
    · exact ((insK_perm h.2).cons x).trans (List.Perm.swap k x xs)
theorem insK_le : ∀ {xs : List Int} {k : Int}, xs.Pairwise (· ≤ ·) → (insK xs k).Pairwise (· ≤ ·)
  | [], k, _ => by simp [insK]
  | x :: xs, k, h => by
    have h' := List.pairwise_cons.1 h
    simp only [insK]
    split
    · rename_i hk
      split
      · refine List.pairwise_cons.2 ⟨fun y hy => ?_, h⟩
        rcases List.mem_cons.1 hy with rfl | hy
        · exact hk
        · have := h'.1 y hy; omega
      · exact h
    · rename_i hk
      refine List.pairwise_cons.2 ⟨fun y hy => ?_, insK_le h'.2⟩
      rcases insK_mem hy with rfl | hy
      · omega
      · exact h'.1 y hy
theorem fold_ins : ∀ (zs ys : List Int), ys.Pairwise (· ≤ ·) → zs.Nodup → (∀ z ∈ zs, z ∉ ys) → (zs.foldl insK ys).Perm (ys ++ zs) ∧ (zs.foldl insK ys).Pairwise (· ≤ ·)
  | [], ys, h, _, _ => by simpa using h
  | z :: zs, ys, h, hn, hd => by
    have hn' := List.nodup_cons.1 hn
    have hp := insK_perm (hd z List.mem_cons_self)
    obtain ⟨h1, h2⟩ := fold_ins zs (insK ys z) (insK_le h) hn'.2 (fun y hy hm => by
      rcases insK_mem hm with rfl | hm
      · exact hn'.1 hy
      · exact hd y (List.mem_cons_of_mem _ hy) hm)
    refine ⟨h1.trans ?_, h2⟩
    exact ((hp.append_right zs).trans (by simpa using (List.perm_middle (a := z) (l₁ := ys) (l₂ := zs)).symm))
section
variable {xs : List Int} {k : Int} {q : Nat} (h : q < xs.length)
theorem putTo_a (h1 : (putTo xs k q).1 = true) : (putTo xs k (q + 1)).1 = true ∧ (putTo xs k (q + 1)).2 = (putTo xs k q).2 ++ [xs[q]] := by
  rw [putTo_succ xs k h]; simp [putStep, h1]
theorem putTo_b (h1 : (putTo xs k q).1 = false) (h2 : ¬ k ≤ xs[q]) : (putTo xs k (q + 1)).1 = false ∧ (putTo xs k (q + 1)).2 = (putTo xs k q).2 ++ [xs[q]] := by
  rw [putTo_succ xs k h]; simp [putStep, h1, h2]
theorem putTo_c (h1 : (putTo xs k q).1 = false) (h2 : k ≤ xs[q]) (h3 : ¬ k < xs[q]) : (putTo xs k (q + 1)).1 = true ∧ (putTo xs k (q + 1)).2 = (putTo xs k q).2 ++ [xs[q]] := by
  rw [putTo_succ xs k h]; simp [putStep, h1, h2, h3]
theorem putTo_d (h1 : (putTo xs k q).1 = false) (h2 : k ≤ xs[q]) (h3 : k < xs[q]) : (putTo xs k (q + 1)).1 = true ∧ (putTo xs k (q + 1)).2 = (putTo xs k q).2 ++ [k] ++ [xs[q]] := by
  rw [putTo_succ xs k h]; simp [putStep, h1, h2, h3]
theorem fold_succ (ys : List Int) : (xs.take (q + 1)).foldl insK ys = insK ((xs.take q).foldl insK ys) xs[q] := by
  rw [List.take_succ_eq_append_getElem h, List.foldl_append]
  rfl
end
theorem fold_len : ∀ (zs ys : List Int), (zs.foldl insK ys).length ≤ ys.length + zs.length
  | [], ys => by simp
  | z :: zs, ys => by
    have h1 := fold_len zs (insK ys z)
    have h2 := insK_len ys z
    simp only [List.foldl_cons, List.length_cons]; omega
def sortI (xs : List Int) : List Int := xs.mergeSort fun x y => decide (x ≤ y)
theorem sortI_perm (xs : List Int) : (sortI xs).Perm xs := List.mergeSort_perm xs _
theorem sortI_le (xs : List Int) : (sortI xs).Pairwise (· ≤ ·) := by
  have := List.pairwise_mergeSort (le := fun (x y : Int) => decide (x ≤ y)) (by intro a b c; simp; omega) (by intro a b; simp; omega) xs
  exact this.imp (by intro a b h; simpa using h)
theorem sortI_len (xs : List Int) : (sortI xs).length = xs.length := (sortI_perm xs).length_eq
theorem sorted_eq {xs ys : List Int} (hx : xs.Pairwise (· ≤ ·)) (hy : ys.Pairwise (· ≤ ·)) (h : xs.Perm ys) : xs = ys :=
  List.Perm.eq_of_pairwise (le := (· ≤ ·)) (fun a b _ _ h1 h2 => by omega) hx hy h
theorem rises_pw {xs : List Int} {lo hi : Int} (h : risesB xs lo hi = true) : xs.Pairwise (· < ·) := List.pairwise_iff_getElem.2 (fun _ _ _ hj hij => rises_pair h hij hj)
theorem pw_rises {xs : List Int} {lo hi : Int} (h : xs.Pairwise (· < ·)) (hm : ∀ x ∈ xs, lo ≤ x ∧ x ≤ hi) : risesB xs lo hi = true :=
  all_good (fun i hi => by
    have hin := inB_true.2 (hm xs[i] (List.getElem_mem hi))
    cases i with
    | zero => exact good_zero (h := hi) hin
    | succ j =>
      have := List.pairwise_iff_getElem.1 h j (j + 1) (by omega) hi (by omega)
      exact good_succ (h := hi) hin (by simp only [geI, decide_eq_false_iff_not]; omega))
theorem lt_le {xs : List Int} (h : xs.Pairwise (· < ·)) : xs.Pairwise (· ≤ ·) := h.imp (fun h => Int.le_of_lt h)
theorem lt_nodup {xs : List Int} (h : xs.Pairwise (· < ·)) : xs.Nodup := h.imp (fun h e => by omega)
section
variable {ys zs : List Int} {lo hi : Int}
/-- two rising lists without a common number: the sorted whole is what is put in one by one -/
theorem book_fold (hy : risesB ys lo hi = true) (hz : risesB zs lo hi = true) (hd : zs.any (hasB ys) = false) : sortI (ys ++ zs) = zs.foldl insK ys := by
  have hd' : ∀ z ∈ zs, z ∉ ys := fun z hz hm => by
    rw [List.any_eq_false] at hd
    exact hd z hz (by simpa [hasB] using hm)
  obtain ⟨h1, h2⟩ := fold_ins zs ys (lt_le (rises_pw hy)) (lt_nodup (rises_pw hz)) hd'
  exact sorted_eq (sortI_le _) h2 ((sortI_perm _).trans h1.symm)
theorem book_rises (hy : risesB ys lo hi = true) (hz : risesB zs lo hi = true) : risesB (sortI (ys ++ zs)) lo hi = !zs.any (hasB ys) := by
  have hmem : ∀ x ∈ sortI (ys ++ zs), lo ≤ x ∧ x ≤ hi := fun x hx => by
    have := (sortI_perm _).mem_iff.1 hx
    rcases List.mem_append.1 this with h | h
    · exact rises_mem hy x h
    · exact rises_mem hz x h
  cases hd : zs.any (hasB ys)
  · have hn : (ys ++ zs).Nodup := List.nodup_append.2 ⟨lt_nodup (rises_pw hy), lt_nodup (rises_pw hz), fun a ha b hb e => by
      subst e
      rw [List.any_eq_false] at hd
      exact hd a hb (by simpa [hasB] using ha)⟩
    have hn' := (sortI_perm (ys ++ zs)).nodup_iff.2 hn
    refine pw_rises ?_ hmem
    exact ((sortI_le (ys ++ zs)).and hn').imp (fun ⟨h1, h2⟩ => by omega)
  · cases hr : risesB (sortI (ys ++ zs)) lo hi
    · rfl
    · exfalso
      have hn := (sortI_perm (ys ++ zs)).nodup_iff.1 (lt_nodup (rises_pw hr))
      rw [List.any_eq_true] at hd
      obtain ⟨z, hz1, hz2⟩ := hd
      exact (List.nodup_append.1 hn).2.2 z (by simpa [hasB] using hz2) z hz1 rfl
end
theorem rises_len {xs : List Int} {m : Int} (h : risesB xs 0 (m - 1) = true) : (xs.length : Int) ≤ m ∨ xs = [] := by
  rcases Nat.eq_zero_or_pos xs.length with h0 | h0
  · exact .inr (List.eq_nil_of_length_eq_zero h0)
  · left
    have key : ∀ i (hi : i < xs.length), (i : Int) ≤ xs[i] := fun i => by
      induction i with
      | zero => intro hi; have := (rises_mem h _ (List.getElem_mem hi)).1; omega
      | succ j ih => intro hi; have h1 := ih (by omega); have h2 := rises_lt h (i := j) hi; omega
    have h1 := key (xs.length - 1) (by omega)
    have h2 := (rises_mem h _ (List.getElem_mem (show xs.length - 1 < xs.length by omega))).2
    omega
def bookOk (xs : List RingD) (ys zs : List Int) : Bool := bookedB xs ys && risesB zs 0 (sumCount xs - 1)
def bookZ (xs : List RingD) (ys zs : List Int) : List Int := if bookOk xs ys zs = true ∧ zs.any (hasB ys) = false then zs.foldl insK ys else []
def bookC (xs : List RingD) (ys zs : List Int) : Int := if bookOk xs ys zs = true then (if zs.any (hasB ys) = true then 4 else 0) else 1
theorem bookZ_len (xs : List RingD) (ys zs : List Int) : (bookZ xs ys zs).length ≤ 1099511627776 := by
  unfold bookZ
  split
  · rename_i h
    have h1 := h.1
    simp only [bookOk, bookedB, Bool.and_eq_true] at h1
    have h2 := fold_len zs ys
    have h3 := (rings_len h1.1.1).2
    have h4 := rises_len h1.1.2
    have h5 := rises_len h1.2
    rcases h4 with h4 | rfl <;> rcases h5 with h5 | rfl <;> simp at h2 ⊢ <;> omega
  · simp

end Go.Proofs.YtfcfgkkkepifhaaGreatDoor
