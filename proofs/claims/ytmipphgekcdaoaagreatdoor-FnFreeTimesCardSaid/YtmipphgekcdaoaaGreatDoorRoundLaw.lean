/- A list written and read back is the list. Plain Lean. Conditions: one to 64 numbers from -10^12 to 10^12. -/
import Derived.Test.YtmipphgekcdaoaaGreatDoorReadList
import Derived.Test.YtmipphgekcdaoaaGreatDoorReadText
namespace Go.Proofs.YtmipphgekcdaoaaGreatDoor
set_option linter.unusedVariables false
open Go.RowKit

theorem splitO_skip {c : UInt8} : ∀ (p cur rest : List UInt8), c ∉ p → splitO c cur (p ++ rest) = splitO c (cur ++ p) rest
  | [], cur, rest, _ => by simp
  | x :: p, cur, rest, h => by
    simp only [List.mem_cons, not_or] at h
    rw [List.cons_append, splitO_miss (fun e => h.1 e.symm), splitO_skip p _ _ h.2]
    simp
theorem splitO_join {c : UInt8} : ∀ (bs : List (List UInt8)) (a cur : List UInt8), (∀ p ∈ a :: bs, c ∉ p) → splitO c cur (Lib.join (a :: bs) [c]) = (cur ++ a) :: bs
  | [], a, cur, h => by
    rw [Lib.join_one]
    have := splitO_skip (c := c) a cur [] (h a (by simp))
    rw [List.append_nil] at this
    rw [this]; rfl
  | b :: bs, a, cur, h => by
    have h1 := splitO_join bs b [] (fun p hp => h p (List.mem_cons_of_mem _ hp))
    rw [Lib.join_cons] at h1 ⊢
    rw [splitO_skip a cur _ (h a (by simp))]
    have e : Lib.joinTail [c] (b :: bs) = c :: (b ++ Lib.joinTail [c] bs) := by simp [Lib.joinTail]
    rw [e, splitO_hit, h1]; rfl
theorem decLen : ∀ (d u : Nat), u < 10 ^ (d + 1) → (Lib.decDigits u).length ≤ d + 1
  | 0, u, h => by rw [Lib.decDigits, dif_pos (by omega)]; simp
  | d + 1, u, h => by
    rw [Lib.decDigits]
    by_cases h1 : u < 10
    · rw [dif_pos h1]; simp
    · rw [dif_neg h1]
      have := decLen d (u / 10) (by rw [Nat.pow_succ] at h; omega)
      simp only [List.length_append, List.length_cons, List.length_nil]; omega
theorem itoa_form (z : Int) : ∃ l, l.all isDig = true ∧ l ≠ [] ∧ l = Lib.decDigits z.natAbs ∧ (Lib.itoa z = l ∨ Lib.itoa z = 45 :: l) := by
  obtain ⟨k1, k2, _, _⟩ := dec_says z.natAbs
  refine ⟨_, k1, k2, rfl, ?_⟩
  unfold Lib.itoa
  split
  · exact .inr rfl
  · refine .inl ?_
    congr 1; omega
theorem dig_no {c : UInt8} (hc : isDig c = false) {l : List UInt8} (h : l.all isDig = true) : c ∉ l := fun hm => by
  have := List.all_eq_true.1 h c hm
  rw [hc] at this; cases this
theorem itoa_no {c : UInt8} (hc : isDig c = false) (h45 : c ≠ 45) (z : Int) : c ∉ Lib.itoa z := by
  obtain ⟨l, h1, h2, _, h3⟩ := itoa_form z
  rcases h3 with h3 | h3 <;> rw [h3]
  · exact dig_no hc h1
  · intro hm
    rcases List.mem_cons.1 hm with h | h
    · exact h45 h
    · exact dig_no hc h1 h
theorem itoa_num {z : Int} (h : -1000000000000 ≤ z ∧ z ≤ 1000000000000) : numOk (Lib.itoa z) = true ∧ numV (Lib.itoa z) = z := by
  obtain ⟨l, h1, h2, h4, h3⟩ := itoa_form z
  have hl : l.length ≤ 18 := by rw [h4]; exact decLen 17 _ (by omega)
  have hl1 : 1 ≤ l.length := by
    rcases Nat.eq_zero_or_pos l.length with h0 | h0
    · exact absurd (List.eq_nil_of_length_eq_zero h0) h2
    · exact h0
  have hd : digsOf (Lib.itoa z) = l := by
    rcases h3 with h3 | h3 <;> rw [h3]
    · unfold digsOf
      rw [if_neg]
      intro e
      cases l with
      | nil => exact h2 rfl
      | cons x r =>
        simp at e
        subst e
        rw [List.all_cons, Bool.and_eq_true] at h1
        exact absurd h1.1 (by decide)
    · rfl
  exact num_of (by rw [hd]; exact hl1) (by rw [hd]; exact hl)
theorem elem_dec {z : Int} (h : -1000000000000 ≤ z ∧ z ≤ 1000000000000) : elemOk (decI z) = true ∧ elemV (decI z) = z := by
  obtain ⟨h1, h2⟩ := itoa_num h
  have h3 : numR (Lib.itoa z) = z := by unfold numR; rw [if_pos h1, h2]
  have h4 : (decI z).data.toList = Lib.itoa z := by simp [decI]
  constructor
  · unfold elemOk
    rw [h4, h1, h3, Bool.true_and]
    exact inB_true.2 h
  · unfold elemV; rw [h4, h3]
theorem split_list {z : Int} {zs : List Int} : splitS 44 (listT (z :: zs)) = (z :: zs).map decI := by
  have h4 : (listT (z :: zs)).data.toList = Lib.join ((z :: zs).map Lib.itoa) [44] := by simp [listT]
  unfold splitS
  rw [h4, List.map_cons, splitO_join _ _ _ (fun p hp => by
    obtain ⟨y, _, rfl⟩ := List.mem_map.1 (show p ∈ (z :: zs).map Lib.itoa from hp)
    exact itoa_no (by decide) (by decide) y), List.nil_append]
  rw [← List.map_cons, List.map_map]; rfl
/-- a list written and read back -/
theorem list_round {zs : List Int} (h0 : 0 < zs.length) (h1 : zs.length ≤ 64) (hb : ∀ z ∈ zs, -1000000000000 ≤ z ∧ z ≤ 1000000000000) : listOk (listT zs) = true ∧ listZ (listT zs) = zs := by
  obtain ⟨z, r, rfl⟩ : ∃ z r, zs = z :: r := by
    cases zs with
    | nil => simp at h0
    | cons z r => exact ⟨z, r, rfl⟩
  have hs := split_list (z := z) (zs := r)
  have hp : partsOk (splitS 44 (listT (z :: r))) = true := by
    rw [hs]
    simp only [partsOk, Bool.and_eq_true, decide_eq_true_eq, List.all_eq_true]
    refine ⟨by rw [List.length_map]; exact h1, fun p hp => ?_⟩
    obtain ⟨y, hy, rfl⟩ := List.mem_map.1 hp
    exact (elem_dec (hb y hy)).1
  have hd : isDash (listT (z :: r)) = false := by
    cases hd : isDash (listT (z :: r))
    · rfl
    · exfalso
      unfold isDash at hd
      rw [Lib.toList_data, beq_iff_eq] at hd
      have h2 := hs
      unfold splitS at h2
      rw [hd] at h2
      have h3 : [⟨#[45]⟩] = (z :: r).map decI := h2
      rw [List.map_cons] at h3
      injection h3 with h3 _
      have := (elem_dec (hb z (by simp))).1
      rw [← h3] at this
      exact absurd this (by decide)
  refine ⟨by rw [listOk, hd, hp]; rfl, ?_⟩
  rw [(list_good hd hp).2, hs, List.map_map]
  have : (z :: r).map (elemV ∘ decI) = (z :: r).map id := List.map_congr_left (fun y hy => (elem_dec (hb y hy)).2)
  rw [this, List.map_id]
end Go.Proofs.YtmipphgekcdaoaaGreatDoor
