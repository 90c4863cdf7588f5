/- Booking further seats: BookSeats of the reference and of the program. Conditions: lists no longer than 2^40. -/
import Derived.Test.YtkepoedicgognaaPutFns
import Derived.Test.YtkepoedicgognaaSortLaid
import Derived.Sort.OwnSortedInts
namespace Go.Proofs.Ytkepoedicgognaa
set_option linter.unusedVariables false
open Go.RowKit Go.Sort

theorem flat_int (zs : List Int) : zs.flatMap intC = zs.map (Value.int .i64) := by
  induction zs with
  | nil => rfl
  | cons z zs ih => simp only [List.flatMap_cons, List.map_cons, ih]; rfl
theorem c_ins0 (A : Option Addr) (c : Nat) (w : World) : Calls Try.prog 120 #[.slice A 0 c, .int .i64 0, .int .i64 0] w fun e w' => e = .returned (.tuple #[]) ∧ w = w' := by
  go_enter Try.func120, Try.ntmps120
  go_wp2_with fail
  go_loopw [6] (fun iv wr => iv = .int .i64 1 ∧ w = wr) (fun _ _ => 0)
  case atStart => exact ⟨rfl, rfl⟩
  case round =>
    obtain ⟨rfl, rfl⟩ := hrel
    go_wp2_with fail
    go_end0
    exact ⟨rfl, rfl⟩
theorem c_pdq0 (A : Option Addr) (c : Nat) (l : Int) (w : World) : Calls Try.prog 106 #[.slice A 0 c, .int .i64 0, .int .i64 0, .int .i64 l] w fun e w' => e = .returned (.tuple #[]) ∧ w = w' := by
  go_enter Try.func106, Try.ntmps106
  go_wp2_with fail
  refine wp_loop_rounds 1 ?_
  rw [rounds_succ]
  go_wp2_with (go_at_call 120; refine (c_ins0 A c _).mono ?_; rintro e w1 ⟨rfl, rfl⟩)
  (try simp only [Exit.inBlock, Exit.then]); refine bodyPost_ret (results_none rfl _ _ _) rfl ?_
  exact ⟨rfl, rfl⟩
theorem c_Sort0 (A : Option Addr) (c : Nat) (w : World) : Calls Try.prog 80 #[.slice A 0 c] w fun e w' => e = .returned (.tuple #[]) ∧ w = w' := by
  go_enter Try.func80, Try.ntmps80
  go_wp2_with fail
  refine (Try.bits_Len 0 w (by omega) (by omega)).mono ?_
  rintro e w1 ⟨rfl, rfl⟩
  go_wp2_with fail
  refine (c_pdq0 A c _ _).mono ?_
  rintro e w1 ⟨rfl, rfl⟩
  go_wp2_with fail
  go_end0
  exact ⟨rfl, rfl⟩
theorem c_Sort (w0 : World) (A : Option Addr) (c : Nat) (zs : List Int) (base : Nat) (w : World) (hO : Own intC 1 2 w base (.slice A zs.length c) zs) (hx : IsX w0 w) (hb : w0.heap.size ≤ base) (hn : zs.length ≤ 2199023255552) :
    Calls Try.prog 80 #[.slice A zs.length c] w fun e w' => e = .returned (.tuple #[]) ∧ Own intC 1 2 w' base (.slice A (sortI zs).length c) (sortI zs) ∧ IsX w0 w' := by
  rcases hO.2 with ⟨h1, h0⟩ | ⟨g, cap, cur, hv, hg, hh, h1, h2, h3, h4⟩
  · have hz := List.eq_nil_of_length_eq_zero h0
    subst hz
    injection h1 with hA _ hc
    subst hA
    simp only [List.length_nil]
    refine (c_Sort0 none c w).mono ?_
    rintro e w1 ⟨rfl, rfl⟩
    exact ⟨rfl, by
      have : sortI [] = [] := List.eq_nil_of_length_eq_zero (by rw [sortI_len]; rfl)
      rw [this]
      exact hO, hx⟩
  · injection hv with hA _ hc
    subst hA
    subst hc
    rw [flat_int, Nat.mul_one] at h4
    refine (Try.slices_Sort_int g 0 c zs w (holds_of_blockI hh h4) (Array.getElem?_eq_some_iff.1 hh).1 (by omega)).mono ?_
    rintro e w1 ⟨rfl, n, os, rfl⟩
    refine ⟨rfl, ?_, ?_⟩
    · show World.ownsRow _ _ _ _ _ (sortI zs).length ((sortI zs).flatMap intC)
      rw [flat_int, sortI_len]
      exact ownsRow_sortedI (sortI_len zs) hg hh h1 h2 h3
    · exact hx.grown (grownBy_sortedI _) (by intro k hk; injection hk with hk; omega)
theorem book_bad1 {xs : List RingD} {ys zs : List Int} (h : bookOk xs ys zs = false) : bookZ xs ys zs = [] ∧ bookC xs ys zs = 1 := by simp [bookZ, bookC, h]
theorem book_bad2 {xs : List RingD} {ys zs : List Int} (h : bookOk xs ys zs = true) (h2 : zs.any (hasB ys) = true) : bookZ xs ys zs = [] ∧ bookC xs ys zs = 4 := by simp only [bookZ, bookC, h, h2]; simp
theorem book_ok {xs : List RingD} {ys zs : List Int} (h : bookOk xs ys zs = true) (h2 : zs.any (hasB ys) = false) : bookZ xs ys zs = zs.foldl insK ys ∧ bookC xs ys zs = 0 := by simp only [bookZ, bookC, h, h2]; simp
theorem rises_cap {xs : List RingD} {ys : List Int} (hv : ringsB xs = true) (h : risesB ys 0 (sumCount xs - 1) = true) : ys.length ≤ 120 := by
  have h1 := (rings_len hv).2
  rcases rises_len h with h2 | rfl
  · omega
  · simp

set_option maxHeartbeats 3200000 in
theorem s_BookSeats (A0 : Option Addr) (c0 : Nat) (xs0 : List RingD) (A1 : Option Addr) (c1 : Nat) (xs1 : List Int) (A2 : Option Addr) (c2 : Nat) (xs2 : List Int) (w : World) (hn0 : xs0.length ≤ 1099511627776) (hw0 : ∀ x ∈ xs0, x.wf) (hA0 : Rd RingD.cells 5 w A0 xs0) (hn1 : xs1.length ≤ 1099511627776) (hw1 : ∀ x ∈ xs1, intWf x) (hA1 : Rd intC 1 w A1 xs1) (hn2 : xs2.length ≤ 1099511627776) (hw2 : ∀ x ∈ xs2, intWf x) (hA2 : Rd intC 1 w A2 xs2) :
    Calls Try.prog 41 #[.slice A0 xs0.length c0, .slice A1 xs1.length c1, .slice A2 xs2.length c2] w (SlPost intC 1 2 w (bookZ xs0 xs1 xs2) (bookC xs0 xs1 xs2)) := by
  cases hbk : bookedB xs0 xs1
  · have HB := hide (book_bad1 (xs := xs0) (ys := xs1) (zs := xs2) (by simp [bookOk, hbk]))
    have HR := hide (show bookedC xs0 xs1 = 1 by simp [bookedC, hbk])
    go_enter Try.func41, Try.ntmps41
    go_wp2_with fail
    refine (c_l23Booked A0 c0 xs0 A1 c1 xs1 w hn0 hw0 hA0 hn1 hw1 hA1).mono ?_
    rintro e w1 ⟨rfl, hx⟩
    rw [HR.out]
    go_wp2_with fail
    go_ret2
    exact SlPost.none HB.out.1 (by rw [HB.out.2]; rfl) hx
  have HR := hide (show bookedC xs0 xs1 = 0 by simp [bookedC, hbk])
  cases hb2 : bookedB xs0 xs2
  · have HB := hide (book_bad1 (xs := xs0) (ys := xs1) (zs := xs2) (by
      simp only [bookedB, Bool.and_eq_true] at hbk
      simp only [bookedB, hbk.1, Bool.true_and] at hb2
      simp [bookOk, hb2]))
    have HR2 := hide (show bookedC xs0 xs2 = 1 by simp [bookedC, hb2])
    go_enter Try.func41, Try.ntmps41
    go_wp2_with fail
    refine (c_l23Booked A0 c0 xs0 A1 c1 xs1 w hn0 hw0 hA0 hn1 hw1 hA1).mono ?_
    rintro e w1 ⟨rfl, hx⟩
    rw [HR.out]
    go_wp2_with fail
    refine (c_l23Booked A0 c0 xs0 A2 c2 xs2 w1 hn0 hw0 (hA0.x hx) hn2 hw2 (hA2.x hx)).mono ?_
    rintro e w2 ⟨rfl, hx2⟩
    rw [HR2.out]
    go_wp2_with fail
    go_ret2
    exact SlPost.none HB.out.1 (by rw [HB.out.2]; rfl) (hx.trans hx2)
  have HR2 := hide (show bookedC xs0 xs2 = 0 by simp [bookedC, hb2])
  have HOK := hide (show bookOk xs0 xs1 xs2 = true by
    simp only [bookedB, Bool.and_eq_true] at hbk hb2
    simp only [bookOk, bookedB, hbk.1, hbk.2, hb2.2]; rfl)
  have hl1 : xs1.length ≤ 120 := by simp only [bookedB, Bool.and_eq_true] at hbk; exact rises_cap hbk.1 hbk.2
  have hl2 : xs2.length ≤ 120 := by simp only [bookedB, Bool.and_eq_true] at hb2; exact rises_cap hb2.1 hb2.2
  clear hbk hb2
  go_enter Try.func41, Try.ntmps41
  go_wp2_with fail
  refine (c_l23Booked A0 c0 xs0 A1 c1 xs1 w hn0 hw0 hA0 hn1 hw1 hA1).mono ?_
  rintro e w1 ⟨rfl, hx⟩
  rw [HR.out]
  go_wp2_with fail
  refine (c_l23Booked A0 c0 xs0 A2 c2 xs2 w1 hn0 hw0 (hA0.x hx) hn2 hw2 (hA2.x hx)).mono ?_
  rintro e w2 ⟨rfl, hx2⟩
  rw [HR2.out]
  go_wp2_with fail
  refine (c_l00Own A1 c1 xs1 w2 hn1 (hA1.x (hx.trans hx2))).mono ?_
  rintro e w3 ⟨A3, c3, rfl, hO, hx3⟩
  have HO : Hid (w3.ownsRow w.heap.size 2 1 (.slice A3 xs1.length c3) xs1.length (xs1.flatMap intC)) := hide (row_le hO (hx.trans hx2).size)
  have HX := hide ((hx.trans hx2).trans hx3)
  obtain ⟨n, hn⟩ : ∃ n, n = xs2.length := ⟨_, rfl⟩
  have HN := hide hn
  have hn120 : n ≤ 120 := by omega
  have HA1 := hide hA1
  have HA2 := hide hA2
  have HN1 := hide hn1
  rw [← hn]
  clear hO hx hx2 hx3 hA0 hw0 hn0 hA1 hA2 hw1 hw2 hn1 hn2 hn hl2
  go_wp2_with fail
  go_loopw [9, 10] (fun ov iv wr => ∃ (q l : Nat), q ≤ n ∧ l ≤ xs1.length + q ∧ iv = .int .i64 q ∧ Hid (l = ((xs2.take q).foldl insK xs1).length) ∧ Hid (wr.ownsRow w.heap.size 2 1 ov l (((xs2.take q).foldl insK xs1).flatMap intC)) ∧ Hid (∀ i (h : i < xs2.length), i < q → hasB xs1 xs2[i] = false) ∧ IsX w wr) (fun _ iv _ => n - (intOf iv).toNat)
  case atStart => exact ⟨0, xs1.length, Nat.zero_le _, by omega, rfl, hide rfl, HO, hide (fun i h hi => absurd hi (by omega)), HX.out⟩
  case round =>
    clear HO HX
    obtain ⟨q, l, hq, hlm, rfl, HL, HO, HF, p, rfl⟩ := hrel
    obtain ⟨Ao, co, hform⟩ := row_slice HO.out
    subst hform
    by_cases hlt : q < n
    · have hltx : q < xs2.length := HN.out ▸ hlt
      have HS := hide (fold_succ hltx xs1)
      obtain ⟨b, off, hA2e, hb, c0⟩ := int_rd HA2.out (show xs2[q]? = some xs2[q] from List.getElem?_eq_getElem _)
      have HAR : Hid (Rd intC 1 (xt w p) Ao ((xs2.take q).foldl insK xs1)) := hide (Rd.of_own (by omega) intC_len (by
        have h := HO.out
        have e := HL.out
        subst e
        exact h))
      subst hA2e
      cases hh : hasB xs1 xs2[q]
      · have HF' := hide (step_all (p := hasB xs1) hltx HF.out hh)
        go_wp2_with fail
        refine (cb (c_l00Has A1 c1 xs1 xs2[q] _ HN1.out (HA1.out.x ⟨p, rfl⟩)) hh).mono ?_
        rintro e w4 ⟨rfl, hx4⟩
        replace HAR := hide (HAR.out.x hx4)
        obtain ⟨p4, rfl⟩ := IsX.trans ⟨p, rfl⟩ hx4
        clear hx4
        go_wp2_with fail
        refine (c_l00Put Ao l co _ xs2[q] _ HL.out (by omega) HAR.out).mono ?_
        rintro e w5 ⟨A5, c5, rfl, hO5, hx5⟩
        have HO5 : Hid (w5.ownsRow w.heap.size 2 1 (.slice A5 _ c5) _ _) := hide (row_le hO5 (size_xt w p4))
        rw [← HS.out] at HO5
        have hl5 := insK_len ((xs2.take q).foldl insK xs1) xs2[q]
        rw [← HL.out, ← HS.out] at hl5
        rw [← HS.out]
        obtain ⟨p5, rfl⟩ := IsX.trans ⟨p4, rfl⟩ hx5
        clear hx5 hO5
        obtain ⟨F, hF⟩ : ∃ F, F = (xs2.take (q + 1)).foldl insK xs1 := ⟨_, rfl⟩
        have HFF := hide hF
        rw [← hF] at HO5 hl5 ⊢
        obtain ⟨l5, hl5e⟩ : ∃ l5, l5 = F.length := ⟨_, rfl⟩
        have HL5 := hide hl5e
        rw [← hl5e] at HO5 hl5 ⊢
        clear hF hl5e
        go_wp2_with fail
        go_roundw
        case rel => exact ⟨q + 1, l5, by omega, by omega, by go_num, hide (by rw [HL5.out, HFF.out]), hide (by rw [← HFF.out]; exact HO5.out), HF', ⟨p5, rfl⟩⟩
        case measure => simp [intOf]; omega
      · have HB := hide (book_bad2 HOK.out (by rw [List.any_eq_true]; exact ⟨_, List.getElem_mem hltx, hh⟩))
        go_wp2_with fail
        refine (cb (c_l00Has A1 c1 xs1 xs2[q] _ HN1.out (HA1.out.x ⟨p, rfl⟩)) hh).mono ?_
        rintro e w4 ⟨rfl, hx4⟩
        go_wp2_with fail
        go_ret2
        exact SlPost.none HB.out.1 (by rw [HB.out.2]; rfl) (IsX.trans ⟨p, rfl⟩ hx4)
    · obtain rfl : q = n := by omega
      have HB := hide (book_ok HOK.out (by
        rw [List.any_eq_false]
        intro z hz
        obtain ⟨i, hi, rfl⟩ := List.getElem_of_mem hz
        simp [HF.out i hi (by rw [HN.out]; exact hi)]))
      have hT : xs2.take q = xs2 := by rw [HN.out]; exact List.take_length
      rw [hT] at HL HO
      clear hT
      go_wp2_with fail
      go_ret2
      refine ⟨Ao, co, by rw [HB.out.1, HB.out.2, ← HL.out]; rfl, ?_, ⟨p, rfl⟩⟩
      rw [HB.out.1, ← HL.out]
      unfold Own
      rw [← HL.out]
      exact HO.out

set_option maxHeartbeats 3200000 in
theorem i_BookSeats (A0 : Option Addr) (c0 : Nat) (xs0 : List RingD) (A1 : Option Addr) (c1 : Nat) (xs1 : List Int) (A2 : Option Addr) (c2 : Nat) (xs2 : List Int) (w : World) (hn0 : xs0.length ≤ 1099511627776) (hw0 : ∀ x ∈ xs0, x.wf) (hA0 : Rd RingD.cells 5 w A0 xs0) (hn1 : xs1.length ≤ 1099511627776) (hw1 : ∀ x ∈ xs1, intWf x) (hA1 : Rd intC 1 w A1 xs1) (hn2 : xs2.length ≤ 1099511627776) (hw2 : ∀ x ∈ xs2, intWf x) (hA2 : Rd intC 1 w A2 xs2) :
    Calls Try.prog 42 #[.slice A0 xs0.length c0, .slice A1 xs1.length c1, .slice A2 xs2.length c2] w (SlPost intC 1 2 w (bookZ xs0 xs1 xs2) (bookC xs0 xs1 xs2)) := by
  cases hv : ringsB xs0
  · have HB := hide (book_bad1 (xs := xs0) (ys := xs1) (zs := xs2) (by simp [bookOk, bookedB, hv]))
    go_enter Try.func42, Try.ntmps42
    go_wp2_with fail
    refine (cb (c_ValidRings A0 c0 xs0 w hn0 hw0 hA0) hv).mono ?_
    rintro e w1 ⟨rfl, hx⟩
    go_wp2_with fail
    go_ret2
    exact SlPost.none HB.out.1 (by rw [HB.out.2]; rfl) hx

  have HV := hide hv
  have hs0 := sumCount_nn hv
  have hs1 := (rings_len hv).2
  cases hr1 : risesB xs1 0 (sumCount xs0 - 1)
  · have HB := hide (book_bad1 (xs := xs0) (ys := xs1) (zs := xs2) (by simp [bookOk, bookedB, hr1]))
    go_enter Try.func42, Try.ntmps42
    go_wp2_with fail
    refine (cb (c_ValidRings A0 c0 xs0 w hn0 hw0 hA0) hv).mono ?_
    rintro e w1 ⟨rfl, hx⟩
    go_wp2_with fail
    refine (c_seatCount A0 c0 xs0 w1 hn0 (rings_cnt HV.out) (hA0.x hx)).mono ?_
    rintro e w2 ⟨rfl, hx2⟩
    go_wp2_with fail
    refine (cb (c_areIndices A1 c1 xs1 (sumCount xs0) w2 hn1 hs0 (by omega) (hA1.x (hx.trans hx2))) hr1).mono ?_
    rintro e w3 ⟨rfl, hx3⟩
    replace hx := (hx.trans hx2).trans hx3
    clear hx2 hx3
    go_wp2_with fail
    go_ret2
    exact SlPost.none HB.out.1 (by rw [HB.out.2]; rfl) hx

  cases hr2 : risesB xs2 0 (sumCount xs0 - 1)
  · have HB := hide (book_bad1 (xs := xs0) (ys := xs1) (zs := xs2) (by simp [bookOk, hr2]))
    go_enter Try.func42, Try.ntmps42
    go_wp2_with fail
    refine (cb (c_ValidRings A0 c0 xs0 w hn0 hw0 hA0) hv).mono ?_
    rintro e w1 ⟨rfl, hx⟩
    go_wp2_with fail
    refine (c_seatCount A0 c0 xs0 w1 hn0 (rings_cnt HV.out) (hA0.x hx)).mono ?_
    rintro e w2 ⟨rfl, hx2⟩
    go_wp2_with fail
    refine (cb (c_areIndices A1 c1 xs1 (sumCount xs0) w2 hn1 hs0 (by omega) (hA1.x (hx.trans hx2))) hr1).mono ?_
    rintro e w3 ⟨rfl, hx3⟩
    replace hx := (hx.trans hx2).trans hx3
    clear hx2 hx3
    go_wp2_with fail
    refine (c_seatCount A0 c0 xs0 w3 hn0 (rings_cnt HV.out) (hA0.x hx)).mono ?_
    rintro e w4 ⟨rfl, hx2⟩
    go_wp2_with fail
    refine (cb (c_areIndices A2 c2 xs2 (sumCount xs0) w4 hn2 hs0 (by omega) (hA2.x (hx.trans hx2))) hr2).mono ?_
    rintro e w5 ⟨rfl, hx3⟩
    replace hx := (hx.trans hx2).trans hx3
    clear hx2 hx3
    go_wp2_with fail
    go_ret2
    exact SlPost.none HB.out.1 (by rw [HB.out.2]; rfl) hx

  have HOK := hide (show bookOk xs0 xs1 xs2 = true by simp [bookOk, bookedB, hv, hr1, hr2])
  have HRS := hide (book_rises hr1 hr2)
  have HFO := hide (fun h => book_fold hr1 hr2 h)
  have hl1 := rises_cap hv hr1
  have hl2 := rises_cap hv hr2
  have hl12 : (xs1 ++ xs2).length ≤ 240 := by simp; omega
  go_enter Try.func42, Try.ntmps42
  go_wp2_with fail
  refine (cb (c_ValidRings A0 c0 xs0 w hn0 hw0 hA0) hv).mono ?_
  rintro e w1 ⟨rfl, hx⟩
  go_wp2_with fail
  refine (c_seatCount A0 c0 xs0 w1 hn0 (rings_cnt HV.out) (hA0.x hx)).mono ?_
  rintro e w2 ⟨rfl, hx2⟩
  go_wp2_with fail
  refine (cb (c_areIndices A1 c1 xs1 (sumCount xs0) w2 hn1 hs0 (by omega) (hA1.x (hx.trans hx2))) hr1).mono ?_
  rintro e w3 ⟨rfl, hx3⟩
  replace hx := (hx.trans hx2).trans hx3
  clear hx2 hx3
  go_wp2_with fail
  refine (c_seatCount A0 c0 xs0 w3 hn0 (rings_cnt HV.out) (hA0.x hx)).mono ?_
  rintro e w4 ⟨rfl, hx2⟩
  go_wp2_with fail
  refine (cb (c_areIndices A2 c2 xs2 (sumCount xs0) w4 hn2 hs0 (by omega) (hA2.x (hx.trans hx2))) hr2).mono ?_
  rintro e w5 ⟨rfl, hx3⟩
  replace hx := (hx.trans hx2).trans hx3
  clear hx2 hx3

  clear hv hr1 hr2
  go_wp2_with fail
  obtain ⟨W, hW⟩ : ∃ W, W = w5.alloc (.cells #[.slice A1 xs1.length c1, .slice A2 xs2.length c2] 23) := ⟨_, rfl⟩
  have hx6 : IsX w5 W := hW ▸ (IsX.refl w5).alloc _
  have hB : Blk W w5.heap.size 23 #[.slice A1 xs1.length c1, .slice A2 xs2.length c2] := hW ▸ Blk.new w5 _ _
  rw [← hW]
  clear hW
  replace hx := hx.trans hx6
  clear hx6
  refine (c_Concat w5.heap.size _ A1 c1 xs1 A2 c2 xs2 W hn1 hn2 (hA1.x hx) (hA2.x hx) hB).mono ?_
  rintro e w6 ⟨A, c, rfl, hO, hx7⟩
  replace hO := hO.mono hx.size
  replace hx := hx.trans hx7
  clear hx7 hB
  obtain ⟨zs, hzs⟩ : ∃ zs, zs = xs1 ++ xs2 := ⟨_, rfl⟩
  have HZS := hide hzs
  rw [← hzs] at hO hl12 ⊢
  clear hzs
  have HO := hide hO
  clear hO
  go_wp2_with fail
  refine (c_Sort w A c zs w.heap.size w6 HO.out hx (Nat.le_refl _) (by omega)).mono ?_
  rintro e w7 ⟨rfl, hO7, hx7⟩
  have HO7 := hide hO7
  have hsl := sortI_len zs
  rw [← hsl]
  rw [← hsl] at hl12
  clear hsl
  clear hO7 HO hx
  go_wp2_with fail
  refine (c_seatCount A0 c0 xs0 w7 hn0 (rings_cnt HV.out) (hA0.x hx7)).mono ?_
  rintro e w8 ⟨rfl, hx8⟩
  replace HO7 := hide (HO7.out.x hx8)
  replace hx7 := hx7.trans hx8
  clear hx8
  go_wp2_with fail
  cases hd : xs2.any (hasB xs1)
  · have HB := hide (book_ok HOK.out hd)
    refine (cb (c_areIndices A c (sortI zs) (sumCount xs0) w8 (by omega) hs0 (by omega) (HO7.out.rd (by omega) intC_len rfl)) (by rw [HZS.out, HRS.out, hd]; try rfl)).mono ?_
    rintro e w9 ⟨rfl, hx9⟩
    replace HO7 := hide (HO7.out.x hx9)
    replace hx7 := hx7.trans hx9
    have HE := hide (show sortI zs = _ from HZS.out ▸ HFO.out hd)
    go_wp2_with fail
    go_ret2
    refine ⟨A, c, by rw [HB.out.1, HB.out.2, ← HE.out]; rfl, ?_, hx7⟩
    rw [HB.out.1, ← HE.out]
    exact HO7.out
  · have HB := hide (book_bad2 HOK.out hd)
    refine (cb (c_areIndices A c (sortI zs) (sumCount xs0) w8 (by omega) hs0 (by omega) (HO7.out.rd (by omega) intC_len rfl)) (by rw [HZS.out, HRS.out, hd]; try rfl)).mono ?_
    rintro e w9 ⟨rfl, hx9⟩
    replace hx7 := hx7.trans hx9
    go_wp2_with fail
    go_ret2
    exact SlPost.none HB.out.1 (by rw [HB.out.2]; rfl) hx7

end Go.Proofs.Ytkepoedicgognaa
