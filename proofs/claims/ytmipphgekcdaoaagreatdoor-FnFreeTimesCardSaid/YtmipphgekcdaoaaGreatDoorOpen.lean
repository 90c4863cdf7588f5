/- Arguments opened: a slice, of whatever elements, that came in reads as a list. Conditions: none; nothing of the program is named here. -/
import Derived.Test.YtmipphgekcdaoaaGreatDoorBase
import Derived.Deep.Slices
import Derived.Deep.Fields
import Derived.ChangeSame
import Derived.ChangeOld
import Derived.ProofKit
import Derived.OpenShut
namespace Go.Proofs.YtmipphgekcdaoaaGreatDoor
set_option linter.unusedVariables false
open Go.RowKit Go.ChangeShapes Go.WideShapes Go.Deep

theorem list_of {α : Type} : ∀ {n : Nat} {p : Nat → α → Prop}, (∀ i, i < n → ∃ x, p i x) → ∃ xs : List α, xs.length = n ∧ ∀ i x, xs[i]? = some x → p i x
  | 0, _, _ => ⟨[], rfl, fun i x h => by simp at h⟩
  | n + 1, p, h => by
    obtain ⟨xs, hl, hx⟩ := list_of (n := n) (p := p) (fun i hi => h i (by omega))
    obtain ⟨y, hy⟩ := h n (by omega)
    refine ⟨xs ++ [y], by simp [hl], fun i x hi => ?_⟩
    rcases Nat.lt_or_ge i n with hin | hin
    · rw [List.getElem?_append_left (by omega)] at hi; exact hx i x hi
    · rw [List.getElem?_append_right (by omega)] at hi
      have hi0 : i - xs.length = 0 := by
        rcases Nat.eq_zero_or_pos (i - xs.length) with h0 | h0
        · exact h0
        · rw [List.getElem?_eq_none (by simp; omega)] at hi; cases hi
      rw [hi0] at hi
      simp at hi
      subst hi
      rw [show i = n by omega]; exact hy

section
variable {H : Type} {enc : TypeId × Value → H} {P : Program} {w : World} {base : Nat} {spare : Nat → Bool} {held : Bool}
theorem open_list {α : Type} (cells : α → List Value) (ok : α → Prop) {k : Nat} {t e : TypeId} {fuel : Nat} {cs : List Value} {x : DataW H × List MemPlace} (ht : P.underlying t = some (.slice e)) (hC : P.cellsOf e = k)
    (h0 : 0 < k) (hcl : ∀ x, (cells x).length = k)
    (elem : ∀ (cs' : List Value) (n : Nat) (y : DataW H × List MemPlace), cs'.length = k → DataW.trod enc P w base spare held n e cs' = some y → ∃ x : α, ok x ∧ cells x = cs')
    (h : DataW.trod enc P w base spare held fuel t cs = some x) :
    ∃ (A : Option Addr) (cap : Nat) (xs : List α), cs = [.slice A xs.length cap] ∧ xs.length ≤ cap ∧ cap ≤ maxLen ∧ (∀ x ∈ xs, ok x) ∧ Rd cells k w A xs := by
  rcases open_slice ht h with ⟨hcs, _⟩ | ⟨a, len, cap, m, n, D, Pl, hcs, hb, hl, hm, hmm, hx, hi⟩
  · exact ⟨none, 0, [], hcs, Nat.le_refl _, Nat.zero_le _, fun x hx => (List.not_mem_nil hx).elim, Rd.nil _ _ _ _⟩
  · have hlm : len ≤ m := by rw [hmm]; split <;> omega
    obtain ⟨xs, hlen, hall⟩ := list_of (n := len) (p := fun i (x : α) => ok x ∧ ∃ b off, some a = some (⟨b, off, none⟩ : Addr) ∧ b < w.heap.size ∧ ∀ j u, (cells x)[j]? = some u → w.cell? ⟨b, off + i * k + j, none⟩ = some u) (fun i hil => by
      obtain ⟨cs', hc, ht'⟩ := hi i (by omega)
      rw [hC] at hc
      obtain ⟨_, hcl', hat⟩ := World.cells?_some hc
      obtain ⟨x, hok, rfl⟩ := elem cs' n _ hcl' ht'
      refine ⟨x, hok, ?_⟩
      have hfirst : ∃ v, w.cell? (a.add (i * k)) = some v := by
        have h1 := hat 0 h0
        obtain ⟨v, hv⟩ : ∃ v, (cells x)[0]? = some v := ⟨_, List.getElem?_eq_getElem (by omega)⟩
        refine ⟨v, ?_⟩
        rw [← hv, ← h1]
        congr 1
      obtain ⟨v, hv⟩ := hfirst
      obtain ⟨b, off, spot⟩ := a
      have hbk : (Addr.add ⟨b, off, spot⟩ (i * k)).block = b := by unfold Addr.add; split <;> rfl
      have hlt : b < w.heap.size := by
        have := World.block_lt_of_cell? w _ hv
        rwa [hbk] at this
      have hsp : spot = none := by
        obtain ⟨cs0, hc0, _⟩ := hi 0 (by omega)
        rw [hC, Nat.zero_mul] at hc0
        obtain ⟨_, hl0, hat0⟩ := World.cells?_some hc0
        have h1 := hat0 0 h0
        have h2 : (Addr.add (Addr.add ⟨b, off, spot⟩ 0) 0) = ⟨b, off, spot⟩ := rfl
        have h3 : cs0[0]? = some (cs0[0]'(by omega)) := List.getElem?_eq_getElem (by omega)
        rw [h3] at h1
        have h4 : w.cell? ⟨b, off, spot⟩ = some (cs0[0]'(by omega)) := h1
        exact World.cell?_spot h4
      subst hsp
      refine ⟨b, off, rfl, hlt, fun j u hu => ?_⟩
      have hj : j < k := by rw [← hcl']; exact (List.getElem?_eq_some_iff.1 hu).1
      have h1 := hat j hj
      rw [hu, add_add] at h1
      have h5 : (Addr.add ⟨b, off, none⟩ (i * k + j)) = ⟨b, off + i * k + j, none⟩ := by
        unfold Addr.add
        split
        · rename_i hz
          have h6 : i * k = 0 := by omega
          have h7 : j = 0 := by omega
          rw [h6, h7]; rfl
        · simp [Nat.add_assoc]
      rwa [h5] at h1)
    refine ⟨some a, cap, xs, by rw [hlen]; exact hcs, by omega, hm, fun x hx => ?_, fun i x hix => (hall i x hix).2⟩
    obtain ⟨i, hil, rfl⟩ := List.getElem_of_mem hx
    exact (hall i _ (List.getElem?_eq_getElem hil)).1

/-- a struct's fields, each of one cell -/
theorem open_fields {e : TypeId} {fs : Array Field} {n : Nat} {cs : List Value} {y : DataW H × List MemPlace} (he : P.underlying e = some (.struct fs)) (hone : oneCellFields P fs = true) (hl : cs.length = fs.size)
    (h : DataW.trod enc P w base spare held n e cs = some y) :
    ∀ (j : Nat) (f : Field), fs[j]? = some f → ∃ v m z, cs[j]? = some v ∧ DataW.trod enc P w base spare held m f.type [v] = some z := by
  intro j f hj
  obtain ⟨ys, n', hn', hy, hlen, hyl, hf⟩ := DataW.trod_struct he h
  obtain ⟨ho, hk⟩ := hone_of hone j f hj
  have hjl : j < fs.size := (Array.getElem?_eq_some_iff.1 hj).1
  have h1 := hf j f hj
  rw [ho, hk] at h1
  have hone' : (cs.drop j).take 1 = [cs[j]'(by omega)] := by
    rw [List.drop_eq_getElem_cons (by omega)]
    rfl
  rw [hone'] at h1
  have hys : ys[j]? = some (ys[j]'(by omega)) := List.getElem?_eq_getElem (by omega)
  exact ⟨cs[j]'(by omega), n', ys[j]'(by omega), List.getElem?_eq_getElem (by omega), h1.trans hys⟩
theorem field_string {t : TypeId} {v : Value} {n : Nat} {y : DataW H × List MemPlace} (ht : P.underlying t = some .string) (h : DataW.trod enc P w base spare held n t [v] = some y) : ∃ s : ByteArray, v = .string s ∧ s.size ≤ maxLen := by
  obtain ⟨s, hs, _, hz⟩ := DataW.trod_string ht h
  simp at hs
  exact ⟨s, hs, hz⟩
theorem field_int {t : TypeId} {v : Value} {n : Nat} {y : DataW H × List MemPlace} (ht : P.underlying t = some (.int .i64)) (h : DataW.trod enc P w base spare held n t [v] = some y) :
    ∃ z : Int, v = .int .i64 z ∧ -9223372036854775808 ≤ z ∧ z ≤ 9223372036854775807 := by
  obtain ⟨z, hs, _, hz⟩ := DataW.trod_int ht h
  simp at hs
  exact ⟨z, hs, bounds_i64 hz⟩
theorem field_bool {t : TypeId} {v : Value} {n : Nat} {y : DataW H × List MemPlace} (ht : P.underlying t = some .bool) (h : DataW.trod enc P w base spare held n t [v] = some y) : ∃ b : Bool, v = .bool b := by
  obtain ⟨b, hs, _⟩ := DataW.trod_bool ht h
  simp at hs
  exact ⟨b, hs⟩
end
end Go.Proofs.YtmipphgekcdaoaaGreatDoor
