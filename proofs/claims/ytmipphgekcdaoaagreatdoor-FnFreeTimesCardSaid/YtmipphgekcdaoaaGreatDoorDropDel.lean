/- slices.Delete over offers: one element taken out of a row of the call's own. Conditions: at most 16 elements. -/
import Derived.Test.YtmipphgekcdaoaaGreatDoorDropFns
namespace Go.Proofs.YtmipphgekcdaoaaGreatDoor
set_option linter.unusedVariables false
open Go.RowKit

def zeroOffer : List Value := [.string ByteArray.empty, .string ByteArray.empty, .int .i64 0, .int .i64 0, .int .i64 0]
theorem run_clear_one (w : World) (ty : TypeId) (b o c : Nat) (hc : ∀ j, j < 5 → (w.cell? ⟨b, o + j, none⟩).isSome = true) (hf : ∀ j, j < 5 → w.frozen? ⟨b, o + j, none⟩ = false) :
    (Builtin.clear_ #[24] ty #[.slice (some ⟨b, o, none⟩) 1 c]).run Tryz.prog w = .ok (.tuple #[]) (w.setCells b o zeroOffer) := by
  have hv : (zeroValue 33).run Tryz.prog w = .ok (.agg zeroOffer.toArray) w := Tryz.zeroValue33 w
  have hzc : (Builtin.zeroCells (Value.agg zeroOffer.toArray).cells 1).toList = zeroOffer := by kernel_rfl
  have hst := run_storeCells_cells (P := Tryz.prog) b o zeroOffer 0 w (by simpa [zeroOffer] using hc) (by simpa [zeroOffer] using hf) (by intro v hv'; simp only [zeroOffer, List.mem_cons, List.not_mem_nil, or_false] at hv'; rcases hv' with rfl | rfl | rfl | rfl | rfl <;> rfl)
  simp only [Nat.add_zero] at hst
  simp [Builtin.clear_, run_underlying Tryz.underlying24, hv, hzc, hst]
set_option maxRecDepth 100000 in
set_option maxHeartbeats 1600000 in
theorem c_DeleteWalk (g c n i : Nat) (news : List Value) (A : Addr) (W1 W2 : World) (i0 : TypeInfo) (w : World) (hi0 : Tryz.prog.info? 33 = some i0) (hz1 : i0.size = 5) (hcap : n ≤ c) (hn : n ≤ 16) (hi : i < n) (hmax : c ≤ maxLen)
    (HN1 : Hid (news.length = (n - (i + 1)) * 5)) (hA : (if c = i + 1 then (some ⟨g, 0, none⟩ : Option Addr) else some ⟨g, (i + 1) * 5, none⟩) = some A) (HS : Hid (∀ t u, news[t]? = some u → w.drew.cell? (A.add t) = some u)) (HONE : Hid (∀ u ∈ news, u.oneCell' = true))
    (HSP : Hid (∀ j, j < news.length → (w.drew.cell? ⟨g, 0 + i * 5 + j, none⟩).isSome = true ∧ w.drew.frozen? ⟨g, 0 + i * 5 + j, none⟩ = false)) (HW : Hid (W1 = w.drew.setCells g (0 + i * 5) news))
    (hclr : ∀ ty : TypeId, (Builtin.clear_ #[24] ty #[.slice (some ⟨g, (i + (n - (i + 1))) * 5, none⟩) (n - (i + (n - (i + 1)))) (c - (i + (n - (i + 1))))]).run Tryz.prog W1 = .ok (.tuple #[]) W2) :
    Calls Tryz.prog 30 #[.slice (some ⟨g, 0, none⟩) n c, .int .i64 (i : Int), .int .i64 ((i : Int) + 1)] w fun e w' => e = .returned (.slice (some ⟨g, 0, none⟩) (i + (n - (i + 1))) c) ∧ w' = W2 := by
  unfold maxLen at hmax
  have hic : i ≤ c := by omega
  have hjc : i + 1 ≤ c := by omega
  have hne : ((i : Int) == (i : Int) + 1) = false := by rw [beq_eq_false_iff_ne]; omega
  have hp0 : (0 : Int) ≤ (i : Int) + 1 := by omega
  have hp1 : (i : Int) + 1 ≤ (n : Int) := by omega
  have hp2 : ((i : Int) + 1).toNat = i + 1 := by omega
  have hp3 : (i : Int) + 1 ≤ (c : Int) := by omega
  go_enter Tryz.func30, Tryz.ntmps30
  go_wp2_with fail
  go_region_law (refine step_append_room rfl (.tmp 22) (.tmp 25) 24 rfl 33 i0 5 Tryz.underlying24 hi0 hz1 g 0 i c (by simp [Act.eval, Act.put]) A (n - (i + 1)) (c - (i + 1)) news (by first | (simp [Act.eval, Act.put]; done) | (simp [Act.eval, Act.put, hA]; done)) HN1.out HS.out HONE.out (by omega) HSP.out ?_; rw [← HW.out])
  go_wp2
  go_ret
  exact ⟨rfl, rfl⟩
set_option maxRecDepth 100000 in
set_option maxHeartbeats 1600000 in
theorem c_DeleteOffer (g c : Nat) (xs : List OfferD) (i base : Nat) (w : World) (hi : i < xs.length) (hn : xs.length ≤ 16) (hO : Own OfferD.cells 5 33 w base (.slice (some ⟨g, 0, none⟩) xs.length c) xs) :
    Calls Tryz.prog 30 #[.slice (some ⟨g, 0, none⟩) xs.length c, .int .i64 (i : Int), .int .i64 ((i : Int) + 1)] w fun e w' => e = .returned (.slice (some ⟨g, 0, none⟩) (xs.take i ++ xs.drop (i + 1)).length c) ∧ Own OfferD.cells 5 33 w' base (.slice (some ⟨g, 0, none⟩) (xs.take i ++ xs.drop (i + 1)).length c) (xs.take i ++ xs.drop (i + 1)) ∧ (∀ w0, IsX w0 w → w0.heap.size ≤ g → IsX w0 w') := by
  obtain ⟨i0, hi0, hz0, hz1, hz2⟩ := info_parts Offer_info
  clear hz0 hz2
  rcases hO.2 with ⟨_, h0⟩ | ⟨g', cap, cur, hv, hbg, hB0, hcap, hmax, hcs, htake⟩
  · omega
  injection hv with hA _ hc
  injection hA with hA
  injection hA with hg
  subst hg hc
  have hB : Blk w g 33 cur := hB0
  obtain ⟨n, hnn⟩ : ∃ n, n = xs.length := ⟨_, rfl⟩
  rw [drop_len hi]
  rw [← hnn] at hi hn hcap htake ⊢
  have hcell : ∀ p, p < n * 5 → cur[p]? = (xs.flatMap OfferD.cells)[p]? := fun p hp => by
    rw [← htake, List.getElem?_take, if_pos hp]; simp
  -- what is moved
  obtain ⟨news, hnews⟩ : ∃ news, news = (xs.drop (i + 1)).flatMap OfferD.cells := ⟨_, rfl⟩
  have hflat : xs.flatMap OfferD.cells = (xs.take (i + 1)).flatMap OfferD.cells ++ news := by rw [hnews, ← List.flatMap_append, List.take_append_drop]
  have hl1 : ((xs.take (i + 1)).flatMap OfferD.cells).length = (i + 1) * 5 := by rw [flat_len OfferD.cells_len, List.length_take]; congr 1; omega
  have hlen : news.length = (n - (i + 1)) * 5 := by rw [hnews, flat_len OfferD.cells_len, List.length_drop, hnn]
  obtain ⟨W1, hW1⟩ : ∃ W1, W1 = w.drew.setCells g (0 + i * 5) news := ⟨_, rfl⟩
  have hBd : Blk w.drew g 33 cur := hB.x (IsX.drew (IsX.refl w))
  obtain ⟨cur1, hB1, hs1, hlo1, hmid1, hhi1⟩ := putAll_blk g 33 news (0 + i * 5) w.drew cur hBd (by omega)
  rw [← set_put, ← hW1] at hB1
  obtain ⟨cur2, hB2, hs2, hlo2, hmid2, hhi2⟩ := putAll_blk g 33 zeroOffer (0 + (i + (n - (i + 1))) * 5) W1 cur1 hB1 (by simp only [zeroOffer, List.length_cons, List.length_nil]; omega)
  rw [← set_put] at hB2
  have HN1 := hide hlen
  have HSRC := hide (show ∃ A : Addr, (if c = i + 1 then (some ⟨g, 0, none⟩ : Option Addr) else some ⟨g, 0 + (i + 1) * 5, none⟩) = some A ∧ ∀ t u, news[t]? = some u → w.drew.cell? (A.add t) = some u from by
    by_cases h : c = i + 1
    · refine ⟨⟨g, 0, none⟩, by simp [h], fun t u hu => ?_⟩
      have : news.length = 0 := by rw [hlen]; omega
      rw [List.length_eq_zero_iff.1 this] at hu
      simp at hu
    · refine ⟨⟨g, 0 + (i + 1) * 5, none⟩, by simp [h], fun t u hu => ?_⟩
      have ht : t < news.length := (List.getElem?_eq_some_iff.1 hu).1
      rw [show (Addr.add ⟨g, 0 + (i + 1) * 5, none⟩ t) = ⟨g, 0 + (i + 1) * 5 + t, none⟩ by unfold Addr.add; split <;> simp_all, hBd.cell, Nat.zero_add, hcell _ (by omega), hflat, List.getElem?_append_right (by omega), hl1]
      rw [show (i + 1) * 5 + t - (i + 1) * 5 = t by omega]; exact hu)
  obtain ⟨A, hA, hsrc⟩ := HSRC.out
  rw [Nat.zero_add] at hA
  have HS := hide hsrc
  have HONE := hide (show ∀ u ∈ news, u.oneCell' = true by rw [hnews]; exact offer_one _)
  have HSP := hide (show ∀ j, j < news.length → (w.drew.cell? ⟨g, 0 + i * 5 + j, none⟩).isSome = true ∧ w.drew.frozen? ⟨g, 0 + i * 5 + j, none⟩ = false from fun j hj => by
    obtain ⟨v, hv⟩ := hBd.has (i := 0 + i * 5 + j) (by omega)
    exact ⟨by rw [hv]; rfl, hBd.frozen _⟩)
  have HW := hide hW1
  have hclr : ∀ ty : TypeId, (Builtin.clear_ #[24] ty #[.slice (some ⟨g, (i + (n - (i + 1))) * 5, none⟩) (n - (i + (n - (i + 1)))) (c - (i + (n - (i + 1))))]).run Tryz.prog W1 = .ok (.tuple #[]) (W1.setCells g (0 + (i + (n - (i + 1))) * 5) zeroOffer) := fun ty => by
    rw [show n - (i + (n - (i + 1))) = 1 by omega, Nat.zero_add]
    exact run_clear_one W1 ty g _ _ (fun j hj => by obtain ⟨v, hv⟩ := hB1.has (i := (i + (n - (i + 1))) * 5 + j) (by omega); rw [hv]; rfl) (fun j _ => hB1.frozen _)
  have HFIN := hide (show Own OfferD.cells 5 33 (W1.setCells g (0 + (i + (n - (i + 1))) * 5) zeroOffer) base (.slice (some ⟨g, 0, none⟩) (n - 1) c) (xs.take i ++ xs.drop (i + 1)) from by
    have hdl := drop_len (xs := xs) (i := i) (by omega)
    rw [← hnn] at hdl
    unfold Own
    rw [hdl]
    refine ⟨by rw [flat_len OfferD.cells_len, hdl], .inr ⟨g, c, cur2, rfl, hbg, hB2, by omega, hmax, by rw [hs2, hs1]; exact hcs, ?_⟩⟩
    apply List.ext_getElem?
    intro p
    rw [List.getElem?_take]
    have hlA : ((xs.take i).flatMap OfferD.cells).length = i * 5 := by rw [flat_len OfferD.cells_len, List.length_take]; congr 1; omega
    by_cases hp : p < (n - 1) * 5
    · rw [if_pos hp]
      simp only [Array.getElem?_toList]
      rw [hlo2 p (by omega), List.flatMap_append]
      by_cases hp2 : p < i * 5
      · rw [hlo1 p (by omega), hcell p (by omega), List.getElem?_append_left (by omega)]
        have h3 : xs.flatMap OfferD.cells = (xs.take i).flatMap OfferD.cells ++ (xs.drop i).flatMap OfferD.cells := by rw [← List.flatMap_append, List.take_append_drop]
        rw [h3, List.getElem?_append_left (by omega)]
      · rw [List.getElem?_append_right (by omega), hlA, ← hnews]
        obtain ⟨u, hu⟩ : ∃ u, news[p - i * 5]? = some u := ⟨_, List.getElem?_eq_getElem (by omega)⟩
        rw [hu]
        have := hmid1 (p - i * 5) u hu
        rwa [show 0 + i * 5 + (p - i * 5) = p by omega] at this
    · rw [if_neg hp, List.getElem?_eq_none (by rw [flat_len OfferD.cells_len, hdl]; omega)])
  have HX := hide (show ∀ w0, IsX w0 w → w0.heap.size ≤ g → IsX w0 (W1.setCells g (0 + (i + (n - (i + 1))) * 5) zeroOffer) from fun w0 h0 hg0 => by
    rw [set_put, hW1, set_put]
    exact putAll_x g hg0 _ _ _ (putAll_x g hg0 _ _ _ (IsX.drew h0)))
  have hm8 := hmax
  refine (c_DeleteWalk g c n i news A W1 _ i0 w hi0 hz1 hcap hn hi hmax HN1 hA HS HONE HSP HW hclr).mono ?_
  rintro e w' ⟨rfl, rfl⟩
  rw [show i + (n - (i + 1)) = n - 1 by omega]
  exact ⟨rfl, by have h := HFIN.out; rw [show i + (n - (i + 1)) = n - 1 by omega] at h; exact h, by have h := HX.out; rw [show i + (n - (i + 1)) = n - 1 by omega] at h; exact h⟩

end Go.Proofs.YtmipphgekcdaoaaGreatDoor
