/- An offer added: AddOffer of the reference. Conditions: lists no longer than 2^40. -/
import Derived.Test.YthahbdpholpmkaaDropFns
namespace Go.Proofs.Ythahbdpholpmkaa
set_option linter.unusedVariables false
open Go.RowKit

def lessB (x y : OfferD) : Bool := Op.bytesLess y.Id.toList x.Id.toList
/-- the place of x: the first offer that does not stand before it -/
def addK (xs : List OfferD) (x : OfferD) : Nat := xs.findIdx fun y => !lessB x y
def takenB (xs : List OfferD) (x : OfferD) : Bool := match xs[addK xs x]? with | some y => y.Id.toList == x.Id.toList | none => false
def addOk (xs : List OfferD) (x : OfferD) : Bool := offersB xs && x.okB
def addC (xs : List OfferD) (x : OfferD) : Int := if addOk xs x = true then (if takenB xs x = true then 4 else if xs.length = 16 then 5 else 0) else 1
def addAll (xs : List OfferD) (x : OfferD) : List OfferD := xs.take (addK xs x) ++ [x] ++ xs.drop (addK xs x)
def addZ (xs : List OfferD) (x : OfferD) : List OfferD := if addC xs x = 0 then addAll xs x else []
section
variable {xs : List OfferD} {x : OfferD}
theorem add_bad (h : addOk xs x = false) : addZ xs x = [] ∧ addC xs x = 1 := by simp [addZ, addC, h]
theorem add_taken (h : addOk xs x = true) (ht : takenB xs x = true) : addZ xs x = [] ∧ addC xs x = 4 := by simp [addZ, addC, h, ht]
theorem add_full (h : addOk xs x = true) (ht : takenB xs x = false) (hn : xs.length = 16) : addZ xs x = [] ∧ addC xs x = 5 := by simp [addZ, addC, h, ht, hn]
theorem add_ok (h : addOk xs x = true) (ht : takenB xs x = false) (hn : ¬ xs.length = 16) : addZ xs x = addAll xs x ∧ addC xs x = 0 := by simp [addZ, addC, h, ht, hn]
theorem addK_at {k : Nat} (h : k < xs.length) (hb : ∀ i (h : i < xs.length), i < k → lessB x xs[i] = true) (hk : lessB x xs[k] = false) : addK xs x = k := by
  unfold addK
  rw [List.findIdx_eq h]
  exact ⟨by simp [hk], fun j hj => by simp [hb j (by omega) hj]⟩
theorem addK_end (hb : ∀ i (h : i < xs.length), lessB x xs[i] = true) : addK xs x = xs.length := by
  unfold addK
  rw [List.findIdx_eq_length]
  intro y hy
  obtain ⟨i, hi, rfl⟩ := List.getElem_of_mem hy
  simp [hb i hi]
theorem taken_at {k : Nat} (h : k < xs.length) (e : addK xs x = k) : takenB xs x = (xs[k].Id.toList == x.Id.toList) := by
  unfold takenB; rw [e, List.getElem?_eq_getElem h]
theorem taken_end (e : addK xs x = xs.length) : takenB xs x = false := by
  unfold takenB; rw [e, List.getElem?_eq_none (Nat.le_refl _)]
theorem addAll_len : (addAll xs x).length = xs.length + 1 := by
  have h : addK xs x ≤ xs.length := List.findIdx_le_length
  simp only [addAll, List.length_append, List.length_take, List.length_drop, List.length_cons, List.length_nil]
  omega
theorem addZ_len (xs : List OfferD) (x : OfferD) : (addZ xs x).length ≤ 1099511627776 := by
  unfold addZ
  split
  · rename_i h
    rw [addAll_len]
    have : addOk xs x = true := by
      cases ho : addOk xs x with
      | true => rfl
      | false => simp [addC, ho] at h
    simp only [addOk, Bool.and_eq_true] at this
    have := offers_len this.1
    omega
  · simp
theorem rowLe {w : World} {base base' e size n : Nat} {v : Value} {L : List Value} (h : w.ownsRow base e size v n L) (hb : base' ≤ base) : w.ownsRow base' e size v n L := by
  refine ⟨h.1, ?_⟩
  rcases h.2 with h2 | ⟨g, cap, cur, hv, hg, r⟩
  · exact .inl h2
  · exact .inr ⟨g, cap, cur, hv, Nat.le_trans hb hg, r⟩
theorem offer_part {w : World} {g a m : Nat} {xs : List OfferD} (h : Rd OfferD.cells 5 w (some ⟨g, 0, none⟩) xs) : Rd OfferD.cells 5 w (some ⟨g, a * 5, none⟩) ((xs.drop a).take m) := fun i z hi => by
  rw [List.getElem?_take] at hi
  split at hi
  · rw [List.getElem?_drop] at hi
    obtain ⟨b, off, e1, hb, hcc⟩ := h _ z hi
    injection e1 with e1
    injection e1 with e1 e2
    subst e1 e2
    refine ⟨g, a * 5, rfl, hb, fun j u hu => ?_⟩
    have := hcc j u hu
    rw [show 0 + (a + i) * 5 + j = a * 5 + i * 5 + j by omega] at this
    exact this
  · cases hi
end

end Go.Proofs.Ythahbdpholpmkaa
