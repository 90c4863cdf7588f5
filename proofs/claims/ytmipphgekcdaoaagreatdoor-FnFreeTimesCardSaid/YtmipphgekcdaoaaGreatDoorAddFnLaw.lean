/- An offer added and removed again leaves the offers as they were. Plain lists. Conditions: told with each. -/
import Derived.Test.YtmipphgekcdaoaaGreatDoorAddAll
import Derived.Test.YtmipphgekcdaoaaGreatDoorDropFns
import Derived.Test.YtmipphgekcdaoaaGreatDoorDropOffer
namespace Go.Proofs.YtmipphgekcdaoaaGreatDoor
set_option linter.unusedVariables false
open Go.RowKit

theorem bl_total : ∀ x y : List UInt8, Op.bytesLess x y = false → x ≠ y → Op.bytesLess y x = true
  | [], [], _, h => absurd rfl h
  | [], b :: y, h, _ => by simp [Op.bytesLess] at h
  | a :: x, [], _, _ => rfl
  | a :: x, b :: y, h, hne => by
    simp only [Op.bytesLess, Bool.or_eq_false_iff, Bool.and_eq_false_iff, decide_eq_false_iff_not, beq_eq_false_iff_ne, ne_eq] at h
    simp only [Op.bytesLess, Bool.or_eq_true, Bool.and_eq_true, decide_eq_true_eq, beq_iff_eq]
    by_cases e : a = b
    · subst e
      right
      refine ⟨rfl, bl_total x y ?_ (fun e => hne (by rw [e]))⟩
      rcases h.2 with h2 | h2
      · exact absurd rfl h2
      · exact h2
    · left
      have h1 := h.1
      rw [UInt8.lt_iff_toNat_lt] at h1 ⊢
      have : a.toNat ≠ b.toNat := fun e2 => e (UInt8.toNat_inj.1 e2)
      omega
def idLt (x y : OfferD) : Prop := Op.bytesLess x.Id.toList y.Id.toList = true
theorem offers_pw {xs : List OfferD} (h : offersB xs = true) : xs.Pairwise idLt := by
  rw [List.pairwise_iff_getElem]
  intro i j hi hj hij
  have := ids_lt h i (j - i - 1) (by omega)
  unfold idLt
  have e : i + (j - i - 1) + 1 = j := by omega
  simp only [e] at this
  exact this
theorem offers_of {xs : List OfferD} (hl : xs.length ≤ 16) (ho : ∀ x ∈ xs, x.okB = true) (hp : xs.Pairwise idLt) : offersB xs = true := by
  simp only [offersB, Bool.and_eq_true, decide_eq_true_eq]
  refine ⟨hl, all_good fun i hi => ?_⟩
  cases i with
  | zero => exact good_zero (h := hi) (ho _ (List.getElem_mem hi))
  | succ i =>
    refine good_succ (h := hi) (ho _ (List.getElem_mem hi)) ?_
    have := List.pairwise_iff_getElem.1 hp i (i + 1) (by omega) hi (by omega)
    unfold idLt at this
    simp only [OfferD.geB, this, Bool.not_true]
theorem bl_ne {x y : List UInt8} (h : Op.bytesLess x y = true) : x ≠ y := fun e => by
  rw [e, bl_irrefl] at h; cases h
/-- an offer added: valid offers; removed again: the offers that were -/
theorem add_drop {xs : List OfferD} {x : OfferD} (h : addC xs x = 0) : addZ xs x = addAll xs x ∧ offersB (addAll xs x) = true ∧ dropC x.Id (addAll xs x) = 0 ∧ dropZ x.Id (addAll xs x) = xs ∧ x.okB = true ∧ offersB xs = true := by
  have hok : addOk xs x = true := by
    cases ho : addOk xs x
    · rw [(add_bad ho).2] at h; omega
    · rfl
  have htk : takenB xs x = false := by
    cases ho : takenB xs x
    · rfl
    · rw [(add_taken hok ho).2] at h; omega
  have hfl : ¬ xs.length = 16 := fun e => by rw [(add_full hok htk e).2] at h; omega
  have hz := (add_ok hok htk hfl).1
  simp only [addOk, Bool.and_eq_true] at hok
  obtain ⟨hv, hx⟩ := hok
  have hpw := offers_pw hv
  have hlen := offers_len hv
  have hokx : ∀ y ∈ xs, y.okB = true := by
    simp only [offersB, Bool.and_eq_true] at hv
    exact allGood_ok hv.2
  have hkl : addK xs x ≤ xs.length := List.findIdx_le_length
  have hlo : ∀ y ∈ xs.take (addK xs x), idLt y x := fun y hy => by
    obtain ⟨i, hi, rfl⟩ := List.getElem_of_mem hy
    rw [List.length_take] at hi
    rw [List.getElem_take]
    have := List.not_of_lt_findIdx (p := fun y => !lessB x y) (xs := xs) (i := i) (by show i < addK xs x; omega)
    simpa [lessB, idLt] using this
  have hhi : ∀ y ∈ xs.drop (addK xs x), idLt x y := fun y hy => by
    obtain ⟨i, hi, rfl⟩ := List.getElem_of_mem hy
    rw [List.length_drop] at hi
    rw [List.getElem_drop]
    have hkx : addK xs x < xs.length := by omega
    have h0 : idLt x xs[addK xs x] := by
      have h1 : lessB x xs[addK xs x] = false := by
        have h3 : (!lessB x xs[addK xs x]) = true := List.findIdx_getElem (p := fun y => !lessB x y) (xs := xs) (w := hkx)
        simpa using h3
      have h2 : xs[addK xs x].Id.toList ≠ x.Id.toList := by
        have := taken_at hkx rfl
        rw [htk] at this
        simpa using this.symm
      exact bl_total _ _ h1 h2
    rcases Nat.eq_zero_or_pos i with rfl | hi0
    · exact h0
    · have := List.pairwise_iff_getElem.1 hpw (addK xs x) (addK xs x + i) hkx (by omega) (by omega)
      exact bl_trans _ _ _ h0 this
  have hxs : xs.take (addK xs x) ++ xs.drop (addK xs x) = xs := List.take_append_drop _ _
  obtain ⟨a, ha⟩ : ∃ a, a = xs.take (addK xs x) := ⟨_, rfl⟩
  obtain ⟨b, hb⟩ : ∃ b, b = xs.drop (addK xs x) := ⟨_, rfl⟩
  have hal : addAll xs x = a ++ [x] ++ b := by rw [ha, hb]; rfl
  rw [← ha] at hlo hxs
  rw [← hb] at hhi hxs
  have hp2 : (a ++ b).Pairwise idLt := by rw [hxs]; exact hpw
  obtain ⟨q1, q2, q3⟩ := List.pairwise_append.1 hp2
  have hva : offersB (addAll xs x) = true := by
    refine offers_of (by rw [addAll_len]; omega) (fun y hy => ?_) ?_
    · rw [hal] at hy
      simp only [List.mem_append, List.mem_singleton] at hy
      rcases hy with (hy | rfl) | hy
      · exact hokx y (by rw [← hxs]; exact List.mem_append_left _ hy)
      · exact hx
      · exact hokx y (by rw [← hxs]; exact List.mem_append_right _ hy)
    · rw [hal, List.append_assoc, List.pairwise_append]
      refine ⟨q1, ?_, fun y hy z hz => ?_⟩
      · rw [List.singleton_append, List.pairwise_cons]; exact ⟨hhi, q2⟩
      · rw [List.singleton_append, List.mem_cons] at hz
        rcases hz with rfl | hz
        · exact hlo y hy
        · exact q3 y hy z hz
  have hfa : a.filter (fun y => !pId x.Id y) = a := List.filter_eq_self.2 fun y hy => by
    have := bl_ne (hlo y hy)
    simp [pId, this]
  have hfb : b.filter (fun y => !pId x.Id y) = b := List.filter_eq_self.2 fun y hy => by
    have := bl_ne (hhi y hy)
    simp [pId, Ne.symm this]
  have hfx : flt x.Id (addAll xs x) = xs := by
    unfold flt
    rw [hal, List.filter_append, List.filter_append, hfa, hfb]
    have : [x].filter (fun y => !pId x.Id y) = [] := by simp [pId]
    rw [this, List.append_nil, hxs]
  have hdi : ¬ dropI x.Id (addAll xs x) < 0 := fun hlt => by
    have hm : x ∈ addAll xs x := by rw [hal]; simp
    obtain ⟨i, hi, e⟩ := List.getElem_of_mem hm
    have := idx_no (p := pId x.Id) (xs := addAll xs x) hlt i hi
    rw [e] at this
    simp [pId] at this
  refine ⟨hz, hva, by simp [dropC, hva, hdi], by simp [dropZ, hva, hdi, hfx], hx, hv⟩
theorem add_none {xs : List OfferD} {x : OfferD} (h : addC xs x ≠ 0) : addZ xs x = [] := by simp [addZ, h]
end Go.Proofs.YtmipphgekcdaoaaGreatDoor
