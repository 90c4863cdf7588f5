/- DropOffer of the reference and of the program. Conditions: lists no longer than 2^40. -/
import Derived.Test.YtmipphgekcdaoaaGreatDoorDropDel
namespace Go.Proofs.YtmipphgekcdaoaaGreatDoor
set_option linter.unusedVariables false
open Go.RowKit

theorem idx_spec {α : Type} {p : α → Bool} {xs : List α} {i : Nat} (h : idxI p xs = (i : Int)) : ∃ hi : i < xs.length, p xs[i] = true ∧ ∀ j (h : j < xs.length), j < i → p xs[j] = false := by
  unfold idxI at h
  cases hf : xs.findIdx? p with
  | none => rw [hf] at h; simp only at h; omega
  | some k =>
    rw [hf] at h
    simp only at h
    obtain rfl : k = i := by omega
    rw [List.findIdx?_eq_some_iff_getElem] at hf
    obtain ⟨hi, hp, hb⟩ := hf
    exact ⟨hi, hp, fun j hj hji => by simpa using hb j hji⟩
theorem idx_no {α : Type} {p : α → Bool} {xs : List α} (h : idxI p xs < 0) : ∀ i (h : i < xs.length), p xs[i] = false := by
  unfold idxI at h
  cases hf : xs.findIdx? p with
  | none =>
    rw [List.findIdx?_eq_none_iff] at hf
    intro i hi
    simpa using hf _ (List.getElem_mem hi)
  | some k => rw [hf] at h; simp only at h; omega
theorem drop_none {id : ByteArray} {xs : List OfferD} (hv : offersB xs = true) (h : dropI id xs < 0) : dropZ id xs = [] ∧ dropC id xs = 3 ∧ flt id xs = xs :=
  ⟨by simp [dropZ, hv, h], by simp [dropC, hv, h], flt_none (idx_no h)⟩
theorem drop_some {id : ByteArray} {xs : List OfferD} {i : Nat} (hv : offersB xs = true) (h : dropI id xs = (i : Int)) : ∃ hi : i < xs.length, dropZ id xs = flt id xs ∧ dropC id xs = 0 ∧ flt id xs = xs.take i ++ xs.drop (i + 1) := by
  obtain ⟨hi, hp, hb⟩ := idx_spec h
  have hn : ¬ dropI id xs < 0 := by omega
  exact ⟨hi, by simp only [dropZ, hv, if_true, if_neg hn], by simp only [dropC, hv, if_true, if_neg hn], flt_some hv hi hp hb⟩
theorem row_slice3 {w : World} {base e size n : Nat} {v : Value} {L : List Value} (h : w.ownsRow base e size v n L) : ∃ A c, v = .slice A n c := by
  rcases h.2 with ⟨rfl, rfl⟩ | ⟨g, cap, cur, hv, _⟩
  · exact ⟨none, 0, rfl⟩
  · exact ⟨_, _, hv⟩

set_option maxRecDepth 100000 in
set_option maxHeartbeats 1600000 in
theorem i_DropOffer (A0 : Option Addr) (c0 : Nat) (xs0 : List OfferD) (s1 : ByteArray) (w : World) (hn0 : xs0.length ≤ 1099511627776) (hw0 : ∀ x ∈ xs0, x.wf) (hA0 : Rd OfferD.cells 5 w A0 xs0) (hs1 : s1.size ≤ 1048576) :
    Calls Tryz.prog 10 #[.slice A0 xs0.length c0, .string s1] w (SlPost OfferD.cells 5 33 w (dropZ s1 xs0) (dropC s1 xs0)) := by
  cases hv : offersB xs0
  · have HZ := hide (show dropZ s1 xs0 = [] by simp [dropZ, hv])
    have HC := hide (show dropC s1 xs0 = 1 by simp [dropC, hv])
    go_enter Tryz.func10, Tryz.ntmps10
    go_wp2_with fail
    obtain ⟨W, hW⟩ : ∃ W, W = w.alloc (.cells #[.string s1] 9) := ⟨_, rfl⟩
    have hx0 : IsX w W := hW ▸ (IsX.refl w).alloc _
    have hb1 : w.heap.size < W.heap.size := by rw [hW]; simp
    have l1 : W.cell? ⟨w.heap.size, 0, none⟩ = some (.string s1) := by rw [hW]; simp [go_sem]
    rw [← hW]
    clear hW
    refine (cb (c_ValidOffers A0 c0 xs0 W hn0 hw0 (hA0.x hx0)) hv).mono ?_
    rintro e w1 ⟨rfl, hx1⟩
    go_wp2_with fail
    go_ret2
    exact SlPost.none HZ.out (by rw [HC.out]; rfl) (hx0.trans hx1)
  have HV := hide hv
  have hl16 := offers_len hv
  by_cases hd : dropI s1 xs0 < 0
  · obtain ⟨z1, z2, -⟩ := drop_none hv hd
    have HZ := hide z1
    have HC := hide z2
    clear z1 z2
    go_enter Tryz.func10, Tryz.ntmps10
    go_wp2_with fail
    obtain ⟨W, hW⟩ : ∃ W, W = w.alloc (.cells #[.string s1] 9) := ⟨_, rfl⟩
    have hx0 : IsX w W := hW ▸ (IsX.refl w).alloc _
    have hb1 : w.heap.size < W.heap.size := by rw [hW]; simp
    have l1 : W.cell? ⟨w.heap.size, 0, none⟩ = some (.string s1) := by rw [hW]; simp [go_sem]
    rw [← hW]
    clear hW
    refine (cb (c_ValidOffers A0 c0 xs0 W hn0 hw0 (hA0.x hx0)) hv).mono ?_
    rintro e w1 ⟨rfl, hx1⟩
    go_wp2_with fail
    refine (c_IndexOffer s1 w.heap.size A0 c0 xs0 w1 hn0 (hA0.x (hx0.trans hx1)) (Nat.lt_of_lt_of_le hb1 hx1.size) (keep hx1 hb1 l1)).mono ?_
    rintro e w2 ⟨rfl, hx2⟩
    go_wp2_with fail
    go_ret2
    exact SlPost.none HZ.out (by rw [HC.out]; rfl) ((hx0.trans hx1).trans hx2)
  obtain ⟨i, hi⟩ := Int.eq_ofNat_of_zero_le (show 0 ≤ dropI s1 xs0 by omega)
  obtain ⟨hil, z1, z2, z3⟩ := drop_some hv hi
  have HZ := hide (z1.trans z3)
  have HC := hide z2
  have HI := hide hi
  clear z1 z2 z3 hd hi
  go_enter Tryz.func10, Tryz.ntmps10
  go_wp2_with fail
  obtain ⟨W, hW⟩ : ∃ W, W = w.alloc (.cells #[.string s1] 9) := ⟨_, rfl⟩
  have hx0 : IsX w W := hW ▸ (IsX.refl w).alloc _
  have hb1 : w.heap.size < W.heap.size := by rw [hW]; simp
  have l1 : W.cell? ⟨w.heap.size, 0, none⟩ = some (.string s1) := by rw [hW]; simp [go_sem]
  rw [← hW]
  clear hW
  refine (cb (c_ValidOffers A0 c0 xs0 W hn0 hw0 (hA0.x hx0)) hv).mono ?_
  rintro e w1 ⟨rfl, hx1⟩
  go_wp2_with fail
  refine (c_IndexOffer s1 w.heap.size A0 c0 xs0 w1 hn0 (hA0.x (hx0.trans hx1)) (Nat.lt_of_lt_of_le hb1 hx1.size) (keep hx1 hb1 l1)).mono ?_
  rintro e w2 ⟨rfl, hx2⟩
  rw [HI.out]
  have hxa := (hx0.trans hx1).trans hx2
  go_wp2_with fail
  refine (c_CloneOffer A0 c0 xs0 w2 hn0 (hA0.x hxa)).mono ?_
  rintro e w3 ⟨A', c', rfl, hO, hx3⟩
  obtain ⟨g, rfl, hgb, hgl⟩ := own_block hO (by omega)
  have hxb := hxa.trans hx3
  have hgw : w.heap.size ≤ g := Nat.le_trans hxa.size hgb
  have HO := hide hO
  clear hO
  go_wp2_with fail
  refine (c_DeleteOffer g c' xs0 i w2.heap.size w3 hil hl16 HO.out).mono ?_
  rintro e w4 ⟨rfl, hO4, hX4⟩
  have HO4 := hide hO4
  have HX4 := hide (hX4 w hxb hgw)
  clear hO4 hX4
  go_wp2_with fail
  go_ret2
  exact ⟨some ⟨g, 0, none⟩, c', by rw [HC.out, HZ.out, List.length_append, List.length_take, List.length_drop]; rfl, by rw [HZ.out]; exact HO4.out.mono hxa.size, HX4.out⟩

end Go.Proofs.YtmipphgekcdaoaaGreatDoor
