/- An offer read: the words of a text and its parts, a list's text and its numbers. Plain Lean. Conditions: none. -/
import Derived.Test.YtmipphgekcdaoaaGreatDoorReadList
import Derived.Test.YtmipphgekcdaoaaGreatDoorOffers
import Derived.Lib.Join
namespace Go.Proofs.YtmipphgekcdaoaaGreatDoor
set_option linter.unusedVariables false
open Go.RowKit

def decI (z : Int) : ByteArray := ⟨(Lib.itoa z).toArray⟩
def listT (xs : List Int) : ByteArray := ⟨(Lib.join (xs.map Lib.itoa) [44]).toArray⟩
theorem bytes_app (a b : List UInt8) : (⟨a.toArray⟩ : ByteArray) ++ ⟨b.toArray⟩ = ⟨(a ++ b).toArray⟩ := by
  apply ByteArray.ext
  simp
theorem list_one {xs : List Int} (h : 0 < xs.length) : (⟨#[]⟩ : ByteArray) ++ decI xs[0] = listT (xs.take 1) := by
  have e : xs.take 1 = [xs[0]] := by
    cases xs with
    | nil => simp at h
    | cons y ys => rfl
  rw [e]
  unfold listT decI
  rw [List.map_cons, List.map_nil, Lib.join_one]
  exact (bytes_app [] _).trans (by rw [List.nil_append])
theorem list_more {xs : List Int} {j : Nat} (h : j + 1 < xs.length) : listT (xs.take (j + 1)) ++ ⟨#[44]⟩ ++ decI xs[j + 1] = listT (xs.take (j + 1 + 1)) := by
  obtain ⟨x, r, rfl⟩ : ∃ x r, xs = x :: r := by
    cases xs with
    | nil => simp at h
    | cons y ys => exact ⟨y, ys, rfl⟩
  have hj : j < r.length := by simpa using h
  have hy : (r.map Lib.itoa)[j]? = some (Lib.itoa r[j]) := by rw [List.getElem?_map, List.getElem?_eq_getElem hj]; rfl
  unfold listT decI
  rw [List.take_succ_cons, List.take_succ_cons, List.map_cons, List.map_cons, Lib.join_cons, Lib.join_cons, List.map_take, List.map_take, Lib.joinTail_take_succ _ _ _ _ hy, List.getElem_cons_succ]
  rw [show (⟨#[44]⟩ : ByteArray) = ⟨[44].toArray⟩ from rfl, bytes_app, bytes_app]
  simp only [List.append_assoc]
theorem list_zero (xs : List Int) : listT (xs.take 0) = ⟨#[]⟩ := rfl
theorem splitO_ne (c : UInt8) (s : List UInt8) : ∀ cur, ∃ h t, splitO c cur s = h :: t := by
  induction s with
  | nil => intro cur; exact ⟨cur, [], rfl⟩
  | cons x xs ih =>
    intro cur
    simp only [splitO]
    split
    · exact ⟨_, _, rfl⟩
    · exact ih _
theorem join_split (c : UInt8) (s : List UInt8) : ∀ cur, Lib.join (splitO c cur s) [c] = cur ++ s := by
  induction s with
  | nil => intro cur; simp [splitO, Lib.join_one]
  | cons x xs ih =>
    intro cur
    simp only [splitO]
    split
    · rename_i h
      subst h
      obtain ⟨h, r, e⟩ := splitO_ne x xs []
      have h2 := ih []
      rw [e, Lib.join_cons] at h2
      rw [Lib.join_cons, e]
      have e3 : Lib.joinTail [x] (h :: r) = x :: (h ++ Lib.joinTail [x] r) := by simp [Lib.joinTail]
      rw [e3, h2, List.nil_append]
    · rw [ih]; simp
theorem splitO_free (c : UInt8) (s : List UInt8) : ∀ cur, c ∉ cur → ∀ p ∈ splitO c cur s, c ∉ p := by
  induction s with
  | nil => intro cur hc p hp; simp [splitO] at hp; subst hp; exact hc
  | cons x xs ih =>
    intro cur hc p hp
    simp only [splitO] at hp
    split at hp
    · rcases List.mem_cons.1 hp with rfl | hp
      · exact hc
      · exact ih [] (by simp) p hp
    · rename_i h
      refine ih _ (fun hm => ?_) p hp
      rcases List.mem_append.1 hm with h1 | h1
      · exact hc h1
      · exact h (List.mem_singleton.1 h1).symm
theorem split_free {c : UInt8} {s p : ByteArray} (h : p ∈ splitS c s) : c ∉ p.data.toList := by
  obtain ⟨l, hl, rfl⟩ := List.mem_map.1 h
  simpa using splitO_free c _ [] (by simp) l hl
theorem split_join (c : UInt8) (s : ByteArray) : Lib.join ((splitS c s).map fun b => b.data.toList) [c] = s.data.toList := by
  rw [splitS_data, join_split, List.nil_append]
theorem elem_itoa {q : ByteArray} (h : elemOk q = true) : Lib.itoa (elemV q) = q.data.toList := by
  simp only [elemOk, Bool.and_eq_true] at h
  have h2 := (num_yes h.1).2.1
  unfold elemV numR
  rw [if_pos h.1]; exact h2
/-- a list that was read is written as it was -/
theorem list_text {p : ByteArray} (h : listOk p = true) (h1 : 0 < (listZ p).length) : listT (listZ p) = p := by
  have hd : isDash p = false := by
    cases hd : isDash p
    · rfl
    · rw [(list_dash hd).2] at h1; simp at h1
  have hp : partsOk (splitS 44 p) = true := by simpa [listOk, hd] using h
  rw [(list_good hd hp).2]
  unfold listT
  rw [List.map_map]
  have ha : ∀ q ∈ splitS 44 p, elemOk q = true := by
    simp only [partsOk, Bool.and_eq_true, List.all_eq_true] at hp
    exact hp.2
  rw [show (splitS 44 p).map (Lib.itoa ∘ elemV) = (splitS 44 p).map fun b => b.data.toList from List.map_congr_left (fun q hq => elem_itoa (ha q hq)), split_join]
theorem list_empty {p : ByteArray} (h : p.size = 0) : listOk p = false := by
  have e : p = ⟨#[]⟩ := by
    apply ByteArray.ext
    exact Array.eq_empty_of_size_eq_zero h
  rw [e]
  have hd : isDash ⟨#[]⟩ = false := by simp [isDash, Lib.toList_data]
  refine (list_bad hd ?_).1
  have e2 : splitS 44 ⟨#[]⟩ = [⟨#[]⟩] := rfl
  rw [e2]
  simp [partsOk, elemOk, numOk, digsOf]

def emptyB : ByteArray := ⟨#[]⟩
def isWord (p : ByteArray) : Bool := !(p.toList == [])
def wordsOf (L : List ByteArray) : List ByteArray := L.filter isWord
def OfferD.nums (x : OfferD) : List Int := [x.Start, x.Length, x.Worth]
def OfferD.text (x : OfferD) : ByteArray := x.Id ++ ⟨#[32]⟩ ++ x.Kind ++ ⟨#[32]⟩ ++ listT x.nums
def offerOf (P : List ByteArray) : OfferD := ⟨P.getD 0 emptyB, P.getD 1 emptyB, (listZ (P.getD 2 emptyB)).getD 0 0, (listZ (P.getD 2 emptyB)).getD 1 0, (listZ (P.getD 2 emptyB)).getD 2 0⟩
def threeOk (P : List ByteArray) : Bool := decide (P.length = 3) && (listOk (P.getD 2 emptyB) && decide ((listZ (P.getD 2 emptyB)).length = 3) && (offerOf P).okB)
def offerB (s : ByteArray) : Bool := threeOk (splitS 32 s)
def offerI (s : ByteArray) : Bool := threeOk (wordsOf (splitS 32 s)) && ((offerOf (wordsOf (splitS 32 s))).text.toList == s.toList)
theorem three_of {P : List ByteArray} (h : threeOk P = true) : ∃ a b c, P = [a, b, c] ∧ listOk c = true ∧ (listZ c).length = 3 ∧ (offerOf P).okB = true ∧ (offerOf P).text = a ++ ⟨#[32]⟩ ++ b ++ ⟨#[32]⟩ ++ c ∧ 1 ≤ a.size ∧ 1 ≤ b.size ∧ 1 ≤ c.size := by
  simp only [threeOk, Bool.and_eq_true, decide_eq_true_eq] at h
  obtain ⟨h3, ⟨h4, h5⟩, h6⟩ := h
  obtain ⟨a, b, c, rfl⟩ : ∃ a b c, P = [a, b, c] := by
    match P, h3 with
    | [a, b, c], _ => exact ⟨a, b, c, rfl⟩
  have h4' : listOk c = true := h4
  have h5' : (listZ c).length = 3 := h5
  have hn : (offerOf [a, b, c]).nums = listZ c := by
    show [(listZ c).getD 0 0, (listZ c).getD 1 0, (listZ c).getD 2 0] = listZ c
    match hz : listZ c, h5' with
    | [x, y, z], _ => rfl
  refine ⟨a, b, c, rfl, h4', h5', h6, ?_, ?_, ?_, ?_⟩
  · show a ++ ⟨#[32]⟩ ++ b ++ ⟨#[32]⟩ ++ listT (offerOf [a, b, c]).nums = _
    rw [hn, list_text h4' (by omega)]
  · simp only [OfferD.okB, Bool.and_eq_true] at h6
    exact (name_size h6.1.1.1.1).1
  · simp only [OfferD.okB, Bool.and_eq_true] at h6
    exact (name_size h6.1.1.1.2).1
  · rcases Nat.eq_zero_or_pos c.size with h0 | h0
    · rw [list_empty h0] at h4'; cases h4'
    · exact h0
theorem isWord_pos {p : ByteArray} (h : 1 ≤ p.size) : isWord p = true := by
  unfold isWord
  rw [Lib.toList_data]
  cases hl : p.data.toList with
  | nil => have : p.data.toList.length = p.size := rfl; rw [hl] at this; simp at this; omega
  | cons x r => rfl
theorem text_list (a b c : ByteArray) : (a ++ ⟨#[32]⟩ ++ b ++ ⟨#[32]⟩ ++ c).data.toList = a.data.toList ++ [32] ++ b.data.toList ++ [32] ++ c.data.toList := by simp
theorem offer_yes {s : ByteArray} (h : offerB s = true) : wordsOf (splitS 32 s) = splitS 32 s ∧ offerI s = true := by
  have h0 := h
  obtain ⟨a, b, c, hP, h4, h5, h6, ht, za, zb, zc⟩ := three_of h
  have hw : wordsOf (splitS 32 s) = splitS 32 s := by
    rw [hP]; simp [wordsOf, isWord_pos za, isWord_pos zb, isWord_pos zc]
  refine ⟨hw, ?_⟩
  unfold offerI
  rw [hw, show threeOk (splitS 32 s) = true from h0, ht, Bool.true_and, beq_iff_eq, Lib.toList_data, Lib.toList_data, text_list]
  have hj := split_join 32 s
  rw [hP] at hj
  rw [← hj]
  simp [Lib.join, List.intercalate]
theorem offer_back {s : ByteArray} (h : offerI s = true) : offerB s = true := by
  simp only [offerI, Bool.and_eq_true] at h
  obtain ⟨h0, hq⟩ := h
  obtain ⟨a, b, c, hW, h4, h5, h6, ht, za, zb, zc⟩ := three_of h0
  have hmem : ∀ p ∈ wordsOf (splitS 32 s), (32 : UInt8) ∉ p.data.toList := fun p hp => split_free (List.mem_filter.1 hp).1
  have fa := hmem a (by rw [hW]; simp)
  have fb := hmem b (by rw [hW]; simp)
  have fc := hmem c (by rw [hW]; simp)
  rw [ht, beq_iff_eq, Lib.toList_data, Lib.toList_data, text_list] at hq
  have hc : s.data.toList.count 32 = 2 := by
    rw [← hq]
    simp only [List.count_append, List.count_eq_zero_of_not_mem fa, List.count_eq_zero_of_not_mem fb, List.count_eq_zero_of_not_mem fc]
    rfl
  have hl : (splitS 32 s).length = 3 := by
    unfold splitS
    rw [List.length_map, splitO_count, hc]
  have hfull : wordsOf (splitS 32 s) = splitS 32 s := by
    apply List.Sublist.eq_of_length (List.filter_sublist)
    show (wordsOf (splitS 32 s)).length = _
    rw [hW, hl]; rfl
  unfold offerB
  rw [← hfull]; exact h0
theorem offer_same (s : ByteArray) : offerI s = offerB s := by
  cases hB : offerB s
  · cases hI : offerI s
    · rfl
    · rw [offer_back hI] at hB; cases hB
  · exact (offer_yes hB).2
end Go.Proofs.YtmipphgekcdaoaaGreatDoor
