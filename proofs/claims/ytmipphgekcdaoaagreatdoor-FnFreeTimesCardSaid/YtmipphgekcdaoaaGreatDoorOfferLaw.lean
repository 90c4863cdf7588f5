/- What ReadOffer gives: the values of both. Plain Lean. Conditions: none. -/
import Derived.Test.YtmipphgekcdaoaaGreatDoorWords
import Derived.Test.YtmipphgekcdaoaaGreatDoorOfferText
namespace Go.Proofs.YtmipphgekcdaoaaGreatDoor
set_option linter.unusedVariables false
open Go.RowKit

theorem str_at {w : World} {g o : Nat} {xs : List ByteArray} (h : Rd strC 1 w (some ⟨g, o, none⟩) xs) {i : Nat} {x : ByteArray} (hx : xs[i]? = some x) : w.cell? ⟨g, o + i, none⟩ = some (.string x) := by
  obtain ⟨b, off, e, _, hc⟩ := str_rd h hx
  injection e with e
  injection e with e1 e2
  subst e1 e2
  exact hc
theorem str_lt {w : World} {g o : Nat} {xs : List ByteArray} (h : Rd strC 1 w (some ⟨g, o, none⟩) xs) {i : Nat} {x : ByteArray} (hx : xs[i]? = some x) : g < w.heap.size := by
  obtain ⟨b, off, e, hb, _⟩ := str_rd h hx
  injection e with e
  injection e with e1 e2
  subst e1 e2
  exact hb
theorem int_at {w : World} {g o : Nat} {xs : List Int} (h : Rd intC 1 w (some ⟨g, o, none⟩) xs) {i : Nat} {x : Int} (hx : xs[i]? = some x) : w.cell? ⟨g, o + i, none⟩ = some (.int .i64 x) := by
  obtain ⟨b, off, e, _, hc⟩ := int_rd h hx
  injection e with e
  injection e with e1 e2
  subst e1 e2
  exact hc
def offerW (x : OfferD) : Value := .agg #[.string x.Id, .string x.Kind, .int .i64 x.Start, .int .i64 x.Length, .int .i64 x.Worth]
def zeroOfferW : OfferD := ⟨⟨#[]⟩, ⟨#[]⟩, 0, 0, 0⟩
def offerZ (s : ByteArray) : OfferD := if offerB s = true then offerOf (splitS 32 s) else zeroOfferW
def offerZI (s : ByteArray) : OfferD := if offerI s = true then offerOf (wordsOf (splitS 32 s)) else zeroOfferW
theorem offerZ_same (s : ByteArray) : offerZI s = offerZ s := by
  unfold offerZI offerZ
  rw [offer_same]
  cases hB : offerB s
  · rfl
  · rw [(offer_yes hB).1]
theorem offer_no {s : ByteArray} (h : threeOk (splitS 32 s) = false) : offerB s = false ∧ offerZ s = zeroOfferW := by
  have h1 : offerB s = false := h
  exact ⟨h1, by simp [offerZ, h1]⟩
theorem offer_ok {s : ByteArray} (h : threeOk (splitS 32 s) = true) : offerB s = true ∧ offerZ s = offerOf (splitS 32 s) := by
  have h1 : offerB s = true := h
  exact ⟨h1, by simp [offerZ, h1]⟩
theorem offerI_no {s : ByteArray} (h : threeOk (wordsOf (splitS 32 s)) = false) : offerI s = false ∧ offerZI s = zeroOfferW := by
  have h1 : offerI s = false := by simp [offerI, h]
  exact ⟨h1, by simp [offerZI, h1]⟩
theorem offerI_text {s : ByteArray} (h : ((offerOf (wordsOf (splitS 32 s))).text.toList == s.toList) = false) : offerI s = false ∧ offerZI s = zeroOfferW := by
  have h1 : offerI s = false := by simp only [offerI, h, Bool.and_false]
  exact ⟨h1, by simp [offerZI, h1]⟩
theorem offerI_ok {s : ByteArray} (h : threeOk (wordsOf (splitS 32 s)) = true) (h2 : ((offerOf (wordsOf (splitS 32 s))).text.toList == s.toList) = true) : offerI s = true ∧ offerZI s = offerOf (wordsOf (splitS 32 s)) := by
  have h1 : offerI s = true := by simp only [offerI, h, h2, Bool.and_self]
  exact ⟨h1, by simp [offerZI, h1]⟩
theorem three_len {P : List ByteArray} (h : ¬ P.length = 3) : threeOk P = false := by simp [threeOk, h]
theorem three_list {a b c : ByteArray} (h : listOk c = false) : threeOk [a, b, c] = false := by
  have h' : listOk ([a, b, c].getD 2 emptyB) = false := h
  simp only [threeOk, h', Bool.false_and, Bool.and_false]
theorem three_nums {a b c : ByteArray} (h : ¬ (listZ c).length = 3) : threeOk [a, b, c] = false := by
  have h' : ¬ (listZ ([a, b, c].getD 2 emptyB)).length = 3 := h
  simp only [threeOk, decide_eq_false h', Bool.false_and, Bool.and_false]
theorem three_val {a b c : ByteArray} {x0 x1 x2 : Int} (hk : listOk c = true) (h : listZ c = [x0, x1, x2]) : offerOf [a, b, c] = ⟨a, b, x0, x1, x2⟩ ∧ threeOk [a, b, c] = (⟨a, b, x0, x1, x2⟩ : OfferD).okB := by
  have hk' : listOk ([a, b, c].getD 2 emptyB) = true := hk
  have h' : listZ ([a, b, c].getD 2 emptyB) = [x0, x1, x2] := h
  have e : offerOf [a, b, c] = ⟨a, b, x0, x1, x2⟩ := by
    unfold offerOf
    rw [h']; rfl
  refine ⟨e, ?_⟩
  unfold threeOk
  rw [hk', h', e]
  simp
end Go.Proofs.YtmipphgekcdaoaaGreatDoor
