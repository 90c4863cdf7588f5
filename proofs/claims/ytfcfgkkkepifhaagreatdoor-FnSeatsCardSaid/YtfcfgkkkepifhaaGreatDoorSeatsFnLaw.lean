/- Seats: names tell seats apart, places lie on their rings, rings are read back from their texts. Plain laws. Conditions: valid rings. -/
import Derived.Test.YtfcfgkkkepifhaaGreatDoorSeatNameFns
import Derived.Test.YtfcfgkkkepifhaaGreatDoorSeatPlace
import Derived.Test.YtfcfgkkkepifhaaGreatDoorFarLaw
import Derived.Test.YtfcfgkkkepifhaaGreatDoorRoundLaw
import Derived.Test.YtfcfgkkkepifhaaGreatDoorReadRing
namespace Go.Proofs.YtfcfgkkkepifhaaGreatDoor
set_option linter.unusedVariables false
open Go.RowKit

theorem cut_inj {c : UInt8} : ∀ {p p' q q' : List UInt8}, c ∉ p → c ∉ p' → p ++ c :: q = p' ++ c :: q' → p = p' ∧ q = q'
  | [], [], _, _, _, _, h => by simpa using h
  | [], x :: p', _, _, _, h', h => by
    simp only [List.nil_append, List.cons_append, List.cons.injEq] at h
    exact absurd (by rw [h.1]; simp) h'
  | x :: p, [], _, _, h', _, h => by
    simp only [List.nil_append, List.cons_append, List.cons.injEq] at h
    exact absurd (by rw [h.1]; simp) h'
  | x :: p, y :: p', q, q', h1, h2, h => by
    simp only [List.cons_append, List.cons.injEq] at h
    simp only [List.mem_cons, not_or] at h1 h2
    obtain ⟨e1, e2⟩ := cut_inj h1.2 h2.2 h.2
    exact ⟨by rw [h.1, e1], e2⟩
theorem name_data (xs : List RingD) (k : Int) : (nameT xs k).data.toList = 114 :: (Lib.decDigits (((seatI xs k : Nat) : Int) + 1).toNat ++ 115 :: Lib.decDigits (seatN xs k + 1).toNat) := by
  simp [nameT, decText]
theorem dec_no115 (u : Nat) : (115 : UInt8) ∉ Lib.decDigits u := dig_no (by decide) (dec_says u).1
theorem dec_inj {a b : Nat} (h : Lib.decDigits a = Lib.decDigits b) : a = b := by
  have h1 := (dec_says a).2.2.1
  have h2 := (dec_says b).2.2.1
  rw [h] at h1
  omega
theorem name_inj {xs : List RingD} {i k : Int} (hv : ringsB xs = true) (h0 : 0 ≤ i ∧ i < sumCount xs) (h1 : 0 ≤ k ∧ k < sumCount xs) (h : (nameT xs i).toList = (nameT xs k).toList) : i = k := by
  rw [Lib.toList_data, Lib.toList_data, name_data, name_data] at h
  injection h with _ h
  obtain ⟨e1, e2⟩ := cut_inj (dec_no115 _) (dec_no115 _) h
  have e1 := dec_inj e1
  have e2 := dec_inj e2
  have b1 := (seatN_bd (rings_cnt hv) i h0.1 h0.2).1
  have b2 := (seatN_bd (rings_cnt hv) k h1.1 h1.2).1
  have e3 : seatI xs i = seatI xs k := by omega
  have e4 : seatN xs i = seatN xs k := by omega
  unfold seatN at e4
  rw [e3] at e4
  omega
/-- a seat is found by its name -/
theorem named_back {xs : List RingD} {k : Nat} (hv : ringsB xs = true) (hk : (k : Int) < sumCount xs) : namedZ xs (nameT xs (k : Int)) = (k : Int) ∧ namedC xs (nameT xs (k : Int)) = 0 := by
  have hl : k < (rangeI (sumCount xs).toNat).length := by rw [range_len]; omega
  have hI : namedI xs (nameT xs (k : Int)) = (k : Int) := by
    unfold namedI
    refine idxI_at hl (fun i h hi => ?_) ?_
    · rw [range_at]
      unfold namedP
      rw [beq_eq_false_iff_ne]
      intro e
      have h2 : i < (sumCount xs).toNat := by rw [range_len] at h; exact h
      have := name_inj hv ⟨by omega, by omega⟩ ⟨by omega, hk⟩ e
      omega
    · rw [range_at]
      unfold namedP
      exact beq_self_eq_true _
  simp only [namedZ, namedC, hv, if_true, hI]
  exact ⟨by rw [if_neg (by omega)], by rw [if_neg (by omega)]⟩
theorem name_short {xs : List RingD} {k : Int} (hv : ringsB xs = true) (h0 : 0 ≤ k) (h1 : k < sumCount xs) : (nameT xs k).size ≤ 1048576 := by
  obtain ⟨n0, hlt, n1⟩ := seatN_bd (rings_cnt hv) k h0 h1
  have hcm := (rings_ok hv _ (List.getElem_mem hlt)).2.2.2.1
  have hl6 := (rings_len hv).1
  show (nameT xs k).data.size ≤ _
  rw [← Array.length_toList, name_data]
  simp only [List.length_cons, List.length_append]
  have d1 := decDigits_size (((seatI xs k : Nat) : Int) + 1).toNat
  have d2 := decDigits_size (seatN xs k + 1).toNat
  omega
theorem okB_of {xs : List RingD} (hv : ringsB xs = true) {x : RingD} (hx : x ∈ xs) : x.okB = true := by
  simp only [ringsB, Bool.and_eq_true] at hv
  exact allGood_ok hv.1.2 x hx
/-- the place of a seat lies on its ring -/
theorem place_far {xs : List RingD} {k : Int} (hv : ringsB xs = true) (h0 : 0 ≤ k) (h1 : k < sumCount xs) :
    (-30000 ≤ (placeZ xs k).1 ∧ (placeZ xs k).1 ≤ 30000) ∧ (-30000 ≤ (placeZ xs k).2 ∧ (placeZ xs k).2 ≤ 30000) ∧
    ∃ x ∈ xs, x.Radius - 4 ≤ rootZ ((placeZ xs k).1 * (placeZ xs k).1 + (placeZ xs k).2 * (placeZ xs k).2) ∧ rootZ ((placeZ xs k).1 * (placeZ xs k).1 + (placeZ xs k).2 * (placeZ xs k).2) ≤ x.Radius + 4 := by
  obtain ⟨n0, hlt, n1⟩ := seatN_bd (rings_cnt hv) k h0 h1
  have hok := rings_ok hv _ (List.getElem_mem hlt)
  rw [placeZ_at hlt]
  have hm := List.getElem_mem hlt
  generalize xs[seatI xs k] = x at *
  have ha : 0 ≤ seatAng x (seatN xs k) ∧ seatAng x (seatN xs k) < 360000 := by unfold seatAng; omega
  obtain ⟨c1, c2, c3, c4⟩ := circ ha.1 ha.2
  obtain ⟨f1, f2, f3, f4⟩ := far_ok hok.1 hok.2.1 c1 c2 c3 c4
  exact ⟨f1, f2, x, hm, f3, f4⟩
theorem count_ge {xs : List RingD} (hv : ringsB xs = true) : (xs.length : Int) ≤ sumCount xs := by
  have h : ∀ x ∈ xs, 1 ≤ x.Count := fun x hx => (rings_ok hv x hx).2.2.1
  clear hv
  induction xs with
  | nil => simp [sumCount]
  | cons r rs ih =>
    rw [sumCount_cons, List.length_cons]
    have := ih (fun x hx => h x (List.mem_cons_of_mem _ hx))
    have := h r (List.mem_cons_self ..)
    omega
theorem itoa_short {z : Int} (h : 0 ≤ z ∧ z ≤ 1000000) : (Lib.itoa z).length ≤ 8 := by
  obtain ⟨l, _, _, h4, h3⟩ := itoa_form z
  have hl : l.length ≤ 7 := by rw [h4]; exact decLen 6 _ (by omega)
  rcases h3 with h3 | h3 <;> rw [h3] <;> simp <;> omega
theorem ring_text_size {x : RingD} (h : x.okB = true) : (listT x.nums).size ≤ 100 := by
  have hb := numsRing_ok h
  have h0 := itoa_short (hb x.Radius (by simp [RingD.nums]))
  have h1 := itoa_short (hb x.Count (by simp [RingD.nums]))
  have h2 := itoa_short (hb x.From (by simp [RingD.nums]))
  have h3 := itoa_short (hb x.Step (by simp [RingD.nums]))
  have h4 := itoa_short (hb x.Price (by simp [RingD.nums]))
  show (Lib.join (x.nums.map Lib.itoa) [44]).toArray.size ≤ 100
  rw [List.size_toArray]
  simp only [RingD.nums, List.map_cons, List.map_nil, Lib.join_cons, Lib.joinTail, List.flatMap_cons, List.flatMap_nil, List.flatten_cons, List.flatten_nil, List.length_append, List.length_cons, List.length_nil]
  omega
/-- a ring is read back from its text -/
theorem ring_round {x : RingD} (h : x.okB = true) : (textRingZ x).size ≤ 100 ∧ ringB (textRingZ x) = true ∧ ringZ (textRingZ x) = x := by
  have ht : textRingZ x = listT x.nums := by simp [textRingZ, h, RingD.text]
  have hb := numsRing_ok h
  obtain ⟨r1, r2⟩ := list_round (zs := x.nums) (by simp [RingD.nums]) (by simp [RingD.nums]) (fun z hz => by have := hb z hz; omega)
  have hn : ringN (listZ (listT x.nums)) = x := by rw [r2]; rfl
  have hB : ringB (listT x.nums) = true := by
    unfold ringB
    rw [r1, hn, h, r2]; rfl
  rw [ht]
  exact ⟨ring_text_size h, hB, by rw [ring_yes hB, hn]⟩
/-- some ring of the first i lies as far as a place does -/
def onB (far : Int) (xs : List RingD) (i : Nat) : Bool := (xs.take i).any fun x => decide (max (far - x.Radius) (-(far - x.Radius)) ≤ 4)
theorem onB_zero (far : Int) (xs : List RingD) : onB far xs 0 = false := rfl
theorem onB_succ {far : Int} {xs : List RingD} {i : Nat} (h : i < xs.length) : onB far xs (i + 1) = (onB far xs i || decide (max (far - xs[i].Radius) (-(far - xs[i].Radius)) ≤ 4)) := by
  unfold onB
  rw [List.take_succ_eq_append_getElem h, List.any_append]
  simp
theorem onB_all {far : Int} {xs : List RingD} (h : ∃ x ∈ xs, x.Radius - 4 ≤ far ∧ far ≤ x.Radius + 4) : onB far xs xs.length = true := by
  obtain ⟨x, hx, h1, h2⟩ := h
  unfold onB
  rw [List.take_length, List.any_eq_true]
  exact ⟨x, hx, by simp only [decide_eq_true_eq]; omega⟩
theorem no_rings {xs : List RingD} (hv : ringsB xs = true) (h : sumCount xs = 0) : xs.length = 0 := by
  have := count_ge hv
  omega
end Go.Proofs.YtfcfgkkkepifhaaGreatDoor
