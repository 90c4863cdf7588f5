/- Names put into a rising list one by one, and the sorted whole without repeats: plain lists. Conditions: told with each. -/
import Derived.Lib.SlicesCompact
import Derived.Lib.Strings
import Derived.Sort.LotA
import Derived.Sort.Walk0
namespace Go.Proofs.Ytegehdhdlljikaa
set_option linter.unusedVariables false

def keyB (b : ByteArray) : List UInt8 := b.data.toList
def byB (l : List UInt8) : ByteArray := ⟨l.toArray⟩
theorem by_key (b : ByteArray) : byB (keyB b) = b := by cases b; rfl
theorem key_inj {a b : ByteArray} (h : keyB a = keyB b) : a = b := by rw [← by_key a, ← by_key b, h]
theorem less_key (a b : ByteArray) : Op.bytesLess a.toList b.toList = decide (keyB a < keyB b) := by rw [bytesLess_eq, Lib.toList_data, Lib.toList_data]; rfl
theorem eq_key (a b : ByteArray) : (a.toList == b.toList) = decide (keyB a = keyB b) := by
  rw [Lib.toList_data, Lib.toList_data]
  by_cases h : keyB a = keyB b
  · rw [decide_eq_true h]; exact beq_iff_eq.2 h
  · rw [decide_eq_false h]; exact beq_eq_false_iff_ne.2 h
/-- x in its place among xs, once -/
def putS : List ByteArray → ByteArray → List ByteArray
  | [], x => [x]
  | y :: ys, x => if Op.bytesLess y.toList x.toList = true then y :: putS ys x else if (y.toList == x.toList) = true then y :: ys else x :: y :: ys
theorem putS_end : ∀ {xs : List ByteArray} {x : ByteArray}, (∀ i (h : i < xs.length), Op.bytesLess xs[i].toList x.toList = true) → putS xs x = xs ++ [x]
  | [], x, _ => rfl
  | y :: ys, x, h => by
    have h0 := h 0 (by simp)
    simp only [List.getElem_cons_zero] at h0
    have ih := putS_end (xs := ys) (x := x) (fun i hi => by have := h (i + 1) (by simpa using hi); simpa using this)
    simp only [putS, h0, if_true, ih, List.cons_append]
theorem putS_same : ∀ {xs : List ByteArray} {x : ByteArray} (a : Nat) (ha : a < xs.length), (∀ i (h : i < xs.length), i < a → Op.bytesLess xs[i].toList x.toList = true) → Op.bytesLess xs[a].toList x.toList = false → (xs[a].toList == x.toList) = true → putS xs x = xs
  | [], x, a, ha, _, _, _ => by simp at ha
  | y :: ys, x, 0, ha, _, h1, h2 => by
    simp only [List.getElem_cons_zero] at h1 h2
    simp only [putS, h1, h2]; simp
  | y :: ys, x, a + 1, ha, h, h1, h2 => by
    have h0 := h 0 (by simp) (by omega)
    simp only [List.getElem_cons_zero] at h0
    have ih := putS_same (xs := ys) (x := x) a (by simpa using ha) (fun i hi hia => by have := h (i + 1) (by simpa using hi) (by omega); simpa using this) (by simpa using h1) (by simpa using h2)
    simp only [putS, h0, if_true, ih]
theorem putS_mid : ∀ {xs : List ByteArray} {x : ByteArray} (a : Nat) (ha : a < xs.length), (∀ i (h : i < xs.length), i < a → Op.bytesLess xs[i].toList x.toList = true) → Op.bytesLess xs[a].toList x.toList = false → (xs[a].toList == x.toList) = false → putS xs x = xs.take a ++ x :: xs.drop a
  | [], x, a, ha, _, _, _ => by simp at ha
  | y :: ys, x, 0, ha, _, h1, h2 => by
    simp only [List.getElem_cons_zero] at h1 h2
    simp only [putS, h1, h2]; simp
  | y :: ys, x, a + 1, ha, h, h1, h2 => by
    have h0 := h 0 (by simp) (by omega)
    simp only [List.getElem_cons_zero] at h0
    have ih := putS_mid (xs := ys) (x := x) a (by simpa using ha) (fun i hi hia => by have := h (i + 1) (by simpa using hi) (by omega); simpa using this) (by simpa using h1) (by simpa using h2)
    simp only [putS, h0, if_true, ih, List.take_succ_cons, List.drop_succ_cons, List.cons_append]
theorem putS_mem : ∀ {xs : List ByteArray} {x y : ByteArray}, y ∈ putS xs x ↔ y = x ∨ y ∈ xs
  | [], x, y => by simp [putS]
  | z :: xs, x, y => by
    simp only [putS]
    split
    · simp only [List.mem_cons, putS_mem]
      constructor
      · rintro (h | h | h)
        · exact .inr (.inl h)
        · exact .inl h
        · exact .inr (.inr h)
      · rintro (h | h | h)
        · exact .inr (.inl h)
        · exact .inl h
        · exact .inr (.inr h)
    · split
      · rename_i h
        rw [eq_key, decide_eq_true_eq] at h
        have := key_inj h
        subst this
        simp
      · simp
theorem putS_pw : ∀ {xs : List ByteArray} {x : ByteArray}, xs.Pairwise (fun a b => keyB a < keyB b) → (putS xs x).Pairwise (fun a b => keyB a < keyB b)
  | [], x, _ => by simp [putS]
  | z :: xs, x, h => by
    have h' := List.pairwise_cons.1 h
    simp only [putS]
    split
    · rename_i hl
      rw [less_key, decide_eq_true_eq] at hl
      refine List.pairwise_cons.2 ⟨fun y hy => ?_, putS_pw h'.2⟩
      rcases putS_mem.1 hy with rfl | hy
      · exact hl
      · exact h'.1 y hy
    · rename_i hl
      rw [less_key, decide_eq_true_eq] at hl
      split
      · exact h
      · rename_i he
        rw [eq_key, decide_eq_true_eq] at he
        have hlt : keyB x < keyB z := by
          rcases Decidable.em (keyB x < keyB z) with h | h
          · exact h
          · exact absurd (List.le_antisymm (List.not_lt.1 h) (List.not_lt.1 hl)) he
        refine List.pairwise_cons.2 ⟨fun y hy => ?_, h⟩
        rcases List.mem_cons.1 hy with rfl | hy
        · exact hlt
        · exact List.lt_trans hlt (h'.1 y hy)
theorem foldS : ∀ (zs ys : List ByteArray), ys.Pairwise (fun a b => keyB a < keyB b) → (zs.foldl putS ys).Pairwise (fun a b => keyB a < keyB b) ∧ ∀ y, y ∈ zs.foldl putS ys ↔ y ∈ ys ∨ y ∈ zs
  | [], ys, h => by simpa using h
  | z :: zs, ys, h => by
    obtain ⟨h1, h2⟩ := foldS zs (putS ys z) (putS_pw h)
    refine ⟨h1, fun y => ?_⟩
    rw [List.foldl_cons, h2, putS_mem, List.mem_cons]
    constructor
    · rintro ((h | h) | h)
      · exact .inr (.inl h)
      · exact .inl h
      · exact .inr (.inr h)
    · rintro (h | h | h)
      · exact .inl (.inr h)
      · exact .inl (.inl h)
      · exact .inr h
theorem foldS_succ {zs : List ByteArray} {q : Nat} (h : q < zs.length) : (zs.take (q + 1)).foldl putS [] = putS ((zs.take q).foldl putS []) zs[q] := by
  rw [List.take_succ_eq_append_getElem h, List.foldl_append]
  rfl
theorem putS_len : ∀ (xs : List ByteArray) (x : ByteArray), (putS xs x).length ≤ xs.length + 1
  | [], x => by simp [putS]
  | y :: ys, x => by
    have := putS_len ys x
    simp only [putS]
    split
    · simp; omega
    · split <;> simp
theorem foldS_len : ∀ (zs ys : List ByteArray), (zs.foldl putS ys).length ≤ ys.length + zs.length
  | [], ys => by simp
  | z :: zs, ys => by
    have h1 := foldS_len zs (putS ys z)
    have h2 := putS_len ys z
    simp only [List.foldl_cons, List.length_cons]; omega
theorem pw_unique : ∀ {l1 l2 : List (List UInt8)}, l1.Pairwise (· < ·) → l2.Pairwise (· < ·) → (∀ x, x ∈ l1 ↔ x ∈ l2) → l1 = l2
  | [], [], _, _, _ => rfl
  | [], b :: t, _, _, h => by have := (h b).2 List.mem_cons_self; cases this
  | a :: s, [], _, _, h => by have := (h a).1 List.mem_cons_self; cases this
  | a :: s, b :: t, h1, h2, h => by
    have p1 := List.pairwise_cons.1 h1
    have p2 := List.pairwise_cons.1 h2
    have hab : a = b := by
      rcases List.mem_cons.1 ((h a).1 List.mem_cons_self) with e | e
      · exact e
      · rcases List.mem_cons.1 ((h b).2 List.mem_cons_self) with e2 | e2
        · exact e2.symm
        · exact absurd (List.lt_trans (p1.1 b e2) (p2.1 a e)) (List.lt_irrefl _)
    subst hab
    rw [pw_unique p1.2 p2.2 (fun x => ?_)]
    constructor
    · intro hx
      rcases List.mem_cons.1 ((h x).1 (List.mem_cons_of_mem _ hx)) with e | e
      · subst e; exact absurd (p1.1 x hx) (List.lt_irrefl _)
      · exact e
    · intro hx
      rcases List.mem_cons.1 ((h x).2 (List.mem_cons_of_mem _ hx)) with e | e
      · subst e; exact absurd (p2.1 x hx) (List.lt_irrefl _)
      · exact e
def sortB (zs : List (List UInt8)) : List (List UInt8) := zs.mergeSort fun x y => decide (x ≤ y)
theorem sortB_perm (zs : List (List UInt8)) : (sortB zs).Perm zs := List.mergeSort_perm zs _
theorem sortB_le (zs : List (List UInt8)) : (sortB zs).Pairwise (· ≤ ·) := by
  have := List.pairwise_mergeSort (le := fun (x y : List UInt8) => decide (x ≤ y)) (by intro a b c h1 h2; simp only [decide_eq_true_eq] at *; exact List.le_trans h1 h2) (by
    intro a b
    by_cases h : a ≤ b
    · simp [h]
    · have := List.not_le.1 h
      simp [List.le_of_lt this]) zs
  exact this.imp (by intro a b h; simpa using h)
theorem compact_to (zs : List (List UInt8)) (hz : zs.Pairwise (· ≤ ·)) : ∀ m, m ≤ zs.length → (Lib.compactUpTo zs.toArray m).Pairwise (· < ·) ∧ (∀ y, y ∈ Lib.compactUpTo zs.toArray m ↔ y ∈ zs.take m)
  | 0, _ => by simp [Lib.compactUpTo]
  | m + 1, hm => by
    obtain ⟨h1, h2⟩ := compact_to zs hz m (by omega)
    have hmx : m < zs.length := by omega
    have hg : zs.toArray[m]! = zs[m] := by simp [hmx]
    rw [Lib.compactUpTo_succ, List.take_succ_eq_append_getElem hmx, hg]
    cases hk : Lib.keeps zs.toArray m
    · simp only [Bool.false_eq_true, if_false, List.append_nil]
      refine ⟨h1, fun y => ?_⟩
      rw [h2, List.mem_append, List.mem_singleton]
      constructor
      · exact .inl
      · rintro (h | rfl)
        · exact h
        · simp only [Lib.keeps, decide_eq_false_iff_not, not_or, ne_eq, Decidable.not_not] at hk
          have h0 : m ≠ 0 := hk.1
          have hg2 : zs.toArray[m - 1]! = zs[m - 1] := by simp [show m - 1 < zs.length by omega]
          rw [hg, hg2] at hk
          rw [hk.2]
          exact List.mem_take_iff_getElem.2 ⟨m - 1, by omega, rfl⟩
    · simp only [if_true]
      refine ⟨?_, fun y => by rw [List.mem_append, List.mem_append, h2]⟩
      rw [List.pairwise_append]
      refine ⟨h1, by simp, fun a ha b hb => ?_⟩
      simp only [List.mem_singleton] at hb
      subst hb
      obtain ⟨i, hi, rfl⟩ := List.mem_take_iff_getElem.1 ((h2 a).1 ha)
      have him : i < m := by omega
      have hle : ∀ (x y : Nat) (hx : x < zs.length) (hy : y < zs.length), x ≤ y → zs[x] ≤ zs[y] := fun x y hx hy hxy => by
        rcases Nat.lt_or_ge x y with h | h
        · exact List.pairwise_iff_getElem.1 hz x y hx hy h
        · obtain rfl : x = y := by omega
          exact List.le_refl _
      have h3 := hle i (m - 1) (by omega) (by omega) (by omega)
      have h4 := hle (m - 1) m (by omega) hmx (by omega)
      simp only [Lib.keeps, decide_eq_true_eq] at hk
      have hg2 : zs.toArray[m - 1]! = zs[m - 1] := by simp [show m - 1 < zs.length by omega]
      rw [hg, hg2] at hk
      have hne : zs[m] ≠ zs[m - 1] := by
        rcases hk with h | h
        · omega
        · exact h
      refine List.not_le.1 (fun h5 => hne ?_)
      exact List.le_antisymm (List.le_trans h5 h3) h4
/-- the names, sorted, without repeats: what is put in one by one -/
theorem who_same (zs : List ByteArray) : Lib.compact (sortB (zs.map keyB)) = (zs.foldl putS []).map keyB := by
  obtain ⟨h1, h2⟩ := foldS zs [] List.Pairwise.nil
  obtain ⟨h3, h4⟩ := compact_to (sortB (zs.map keyB)) (sortB_le _) (sortB (zs.map keyB)).length (Nat.le_refl _)
  refine pw_unique h3 (by rw [List.pairwise_map]; exact h1) (fun x => ?_)
  rw [show Lib.compact (sortB (zs.map keyB)) = Lib.compactUpTo (sortB (zs.map keyB)).toArray (sortB (zs.map keyB)).length from rfl, h4, List.take_length, (sortB_perm _).mem_iff, List.mem_map, List.mem_map]
  constructor
  · rintro ⟨y, hy, e⟩; exact ⟨y, (h2 y).2 (.inr hy), e⟩
  · rintro ⟨y, hy, e⟩
    rcases (h2 y).1 hy with h | h
    · cases h
    · exact ⟨y, h, e⟩
end Go.Proofs.Ytegehdhdlljikaa
