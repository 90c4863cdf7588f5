/- An offer is read back from its text. Plain lists. Conditions: a valid offer. -/
import Derived.Test.YtmipphgekcdaoaaGreatDoorRoundLaw
import Derived.Test.YtmipphgekcdaoaaGreatDoorOfferLaw
namespace Go.Proofs.YtmipphgekcdaoaaGreatDoor
set_option linter.unusedVariables false
open Go.RowKit

theorem name_free {s : ByteArray} (h : nameB s = true) : (32 : UInt8) ∉ s.data.toList := fun hm => by
  simp only [nameB, nameL, Bool.and_eq_true, List.all_eq_true] at h
  have := h.2 32 hm
  revert this
  decide
theorem join_free {c : UInt8} : ∀ {bs : List (List UInt8)} {a : List UInt8}, c ∉ a → (∀ p ∈ bs, c ∉ p) → c ≠ 44 → c ∉ Lib.join (a :: bs) [44]
  | [], a, ha, _, _ => by rw [Lib.join_one]; exact ha
  | b :: bs, a, ha, h, hc => by
    have ih := join_free (bs := bs) (a := b) (h b (by simp)) (fun p hp => h p (List.mem_cons_of_mem _ hp)) hc
    rw [Lib.join_cons] at ih ⊢
    have e : Lib.joinTail [44] (b :: bs) = 44 :: (b ++ Lib.joinTail [44] bs) := by simp [Lib.joinTail]
    rw [e]
    intro hm
    rcases List.mem_append.1 hm with hm | hm
    · exact ha hm
    · rcases List.mem_cons.1 hm with hm | hm
      · exact hc hm
      · exact ih hm
theorem list_free {zs : List Int} : (32 : UInt8) ∉ (listT zs).data.toList := by
  have e : (listT zs).data.toList = Lib.join (zs.map Lib.itoa) [44] := by simp [listT]
  rw [e]
  cases zs with
  | nil => simp [Lib.join, List.intercalate]
  | cons z r =>
    rw [List.map_cons]
    refine join_free (itoa_no (by decide) (by decide) z) (fun p hp => ?_) (by decide)
    obtain ⟨y, _, rfl⟩ := List.mem_map.1 hp
    exact itoa_no (by decide) (by decide) y
theorem split_three {a b c : ByteArray} (ha : (32 : UInt8) ∉ a.data.toList) (hb : (32 : UInt8) ∉ b.data.toList) (hc : (32 : UInt8) ∉ c.data.toList) : splitS 32 (a ++ ⟨#[32]⟩ ++ b ++ ⟨#[32]⟩ ++ c) = [a, b, c] := by
  unfold splitS
  rw [text_list, List.append_assoc, List.append_assoc, List.append_assoc, splitO_skip _ _ _ ha, List.nil_append]
  rw [show ([32] : List UInt8) ++ (b.data.toList ++ ([32] ++ c.data.toList)) = 32 :: (b.data.toList ++ 32 :: c.data.toList) by simp, splitO_hit, splitO_skip _ _ _ hb, List.nil_append, splitO_hit]
  have := splitO_skip (c := 32) c.data.toList [] [] hc
  rw [List.append_nil, List.nil_append] at this
  rw [this]
  simp [splitO]
theorem itoa_short {z : Int} (h : 0 ≤ z ∧ z ≤ 1000000) : (Lib.itoa z).length ≤ 8 := by
  obtain ⟨l, _, _, h4, h3⟩ := itoa_form z
  have hl : l.length ≤ 7 := by rw [h4]; exact decLen 6 _ (by omega)
  rcases h3 with h3 | h3 <;> rw [h3] <;> simp <;> omega
/-- an offer is read back from its text -/
theorem offer_round {x : OfferD} (h : x.okB = true) : (textOfferZ x).size ≤ 100 ∧ offerI (textOfferZ x) = true ∧ offerZI (textOfferZ x) = x := by
  have ht : textOfferZ x = x.text := by simp [textOfferZ, h]
  have hb := numsOffer_ok h
  have hk := h
  simp only [OfferD.okB, Bool.and_eq_true] at hk
  have hsp : splitS 32 x.text = [x.Id, x.Kind, listT x.nums] := split_three (name_free hk.1.1.1.1) (name_free hk.1.1.1.2) list_free
  obtain ⟨r1, r2⟩ := list_round (zs := x.nums) (by simp [OfferD.nums]) (by simp [OfferD.nums]) (fun z hz => by have := hb z hz; omega)
  have hv := three_val (a := x.Id) (b := x.Kind) r1 (show listZ (listT x.nums) = [x.Start, x.Length, x.Worth] from r2)
  have hok : threeOk (splitS 32 x.text) = true := by rw [hsp, hv.2]; exact h
  have hof : offerOf (splitS 32 x.text) = x := by rw [hsp, hv.1]
  have hoB : offerB x.text = true := hok
  rw [ht]
  refine ⟨?_, (offer_yes hoB).2, by rw [offerZ_same, (offer_ok hok).2, hof]⟩
  have h0 := itoa_short (hb x.Start (by simp [OfferD.nums]))
  have h1 := itoa_short (hb x.Length (by simp [OfferD.nums]))
  have h2 := itoa_short (hb x.Worth (by simp [OfferD.nums]))
  have z0 := name_size hk.1.1.1.1
  have z1 := name_size hk.1.1.1.2
  have z2 : (listT x.nums).size ≤ 40 := by
    show (Lib.join (x.nums.map Lib.itoa) [44]).toArray.size ≤ 40
    rw [List.size_toArray]
    simp only [OfferD.nums, List.map_cons, List.map_nil, Lib.join_cons, Lib.joinTail, List.flatMap_cons, List.flatMap_nil, List.flatten_cons, List.flatten_nil, List.length_append, List.length_cons, List.length_nil]
    omega
  have z3 : (⟨#[32]⟩ : ByteArray).size = 1 := rfl
  simp only [OfferD.text, ByteArray.size_append, z3]
  omega
end Go.Proofs.YtmipphgekcdaoaaGreatDoor
