/- Booking further seats: BookSeats of the reference and of the program. Conditions: lists no longer than 2^40. -/
import Derived.Test.YtfcfgkkkepifhaaGreatDoorPutFns
import Derived.Test.YtfcfgkkkepifhaaGreatDoorSortLaid
import Derived.Sort.OwnSortedInts
import Derived.Test.YtfcfgkkkepifhaaGreatDoorSortFns
namespace Go.Proofs.YtfcfgkkkepifhaaGreatDoor
set_option linter.unusedVariables false
open Go.RowKit Go.Sort

theorem book_bad1 {xs : List RingD} {ys zs : List Int} (h : bookOk xs ys zs = false) : bookZ xs ys zs = [] ∧ bookC xs ys zs = 1 := by simp [bookZ, bookC, h]
theorem book_bad2 {xs : List RingD} {ys zs : List Int} (h : bookOk xs ys zs = true) (h2 : zs.any (hasB ys) = true) : bookZ xs ys zs = [] ∧ bookC xs ys zs = 4 := by simp only [bookZ, bookC, h, h2]; simp
theorem book_ok {xs : List RingD} {ys zs : List Int} (h : bookOk xs ys zs = true) (h2 : zs.any (hasB ys) = false) : bookZ xs ys zs = zs.foldl insK ys ∧ bookC xs ys zs = 0 := by simp only [bookZ, bookC, h, h2]; simp
theorem rises_cap {xs : List RingD} {ys : List Int} (hv : ringsB xs = true) (h : risesB ys 0 (sumCount xs - 1) = true) : ys.length ≤ 120 := by
  have h1 := (rings_len hv).2
  rcases rises_len h with h2 | rfl
  · omega
  · simp

set_option maxHeartbeats 3200000 in
theorem i_BookSeats (A0 : Option Addr) (c0 : Nat) (xs0 : List RingD) (A1 : Option Addr) (c1 : Nat) (xs1 : List Int) (A2 : Option Addr) (c2 : Nat) (xs2 : List Int) (w : World) (hn0 : xs0.length ≤ 1099511627776) (hw0 : ∀ x ∈ xs0, x.wf) (hA0 : Rd RingD.cells 5 w A0 xs0) (hn1 : xs1.length ≤ 1099511627776) (hw1 : ∀ x ∈ xs1, intWf x) (hA1 : Rd intC 1 w A1 xs1) (hn2 : xs2.length ≤ 1099511627776) (hw2 : ∀ x ∈ xs2, intWf x) (hA2 : Rd intC 1 w A2 xs2) :
    Calls Tryz.prog 25 #[.slice A0 xs0.length c0, .slice A1 xs1.length c1, .slice A2 xs2.length c2] w (SlPost intC 1 2 w (bookZ xs0 xs1 xs2) (bookC xs0 xs1 xs2)) := by
  cases hv : ringsB xs0
  · have HB := hide (book_bad1 (xs := xs0) (ys := xs1) (zs := xs2) (by simp [bookOk, bookedB, hv]))
    go_enter Tryz.func25, Tryz.ntmps25
    go_wp2_with fail
    refine (cb (c_ValidRings A0 c0 xs0 w hn0 hw0 hA0) hv).mono ?_
    rintro e w1 ⟨rfl, hx⟩
    go_wp2_with fail
    go_ret2
    exact SlPost.none HB.out.1 (by rw [HB.out.2]; rfl) hx

  have HV := hide hv
  have hs0 := sumCount_nn hv
  have hs1 := (rings_len hv).2
  cases hr1 : risesB xs1 0 (sumCount xs0 - 1)
  · have HB := hide (book_bad1 (xs := xs0) (ys := xs1) (zs := xs2) (by simp [bookOk, bookedB, hr1]))
    go_enter Tryz.func25, Tryz.ntmps25
    go_wp2_with fail
    refine (cb (c_ValidRings A0 c0 xs0 w hn0 hw0 hA0) hv).mono ?_
    rintro e w1 ⟨rfl, hx⟩
    go_wp2_with fail
    refine (c_seatCount A0 c0 xs0 w1 hn0 (rings_cnt HV.out) (hA0.x hx)).mono ?_
    rintro e w2 ⟨rfl, hx2⟩
    go_wp2_with fail
    refine (cb (c_areIndices A1 c1 xs1 (sumCount xs0) w2 hn1 hs0 (by omega) (hA1.x (hx.trans hx2))) hr1).mono ?_
    rintro e w3 ⟨rfl, hx3⟩
    replace hx := (hx.trans hx2).trans hx3
    clear hx2 hx3
    go_wp2_with fail
    go_ret2
    exact SlPost.none HB.out.1 (by rw [HB.out.2]; rfl) hx

  cases hr2 : risesB xs2 0 (sumCount xs0 - 1)
  · have HB := hide (book_bad1 (xs := xs0) (ys := xs1) (zs := xs2) (by simp [bookOk, hr2]))
    go_enter Tryz.func25, Tryz.ntmps25
    go_wp2_with fail
    refine (cb (c_ValidRings A0 c0 xs0 w hn0 hw0 hA0) hv).mono ?_
    rintro e w1 ⟨rfl, hx⟩
    go_wp2_with fail
    refine (c_seatCount A0 c0 xs0 w1 hn0 (rings_cnt HV.out) (hA0.x hx)).mono ?_
    rintro e w2 ⟨rfl, hx2⟩
    go_wp2_with fail
    refine (cb (c_areIndices A1 c1 xs1 (sumCount xs0) w2 hn1 hs0 (by omega) (hA1.x (hx.trans hx2))) hr1).mono ?_
    rintro e w3 ⟨rfl, hx3⟩
    replace hx := (hx.trans hx2).trans hx3
    clear hx2 hx3
    go_wp2_with fail
    refine (c_seatCount A0 c0 xs0 w3 hn0 (rings_cnt HV.out) (hA0.x hx)).mono ?_
    rintro e w4 ⟨rfl, hx2⟩
    go_wp2_with fail
    refine (cb (c_areIndices A2 c2 xs2 (sumCount xs0) w4 hn2 hs0 (by omega) (hA2.x (hx.trans hx2))) hr2).mono ?_
    rintro e w5 ⟨rfl, hx3⟩
    replace hx := (hx.trans hx2).trans hx3
    clear hx2 hx3
    go_wp2_with fail
    go_ret2
    exact SlPost.none HB.out.1 (by rw [HB.out.2]; rfl) hx

  have HOK := hide (show bookOk xs0 xs1 xs2 = true by simp [bookOk, bookedB, hv, hr1, hr2])
  have HRS := hide (book_rises hr1 hr2)
  have HFO := hide (fun h => book_fold hr1 hr2 h)
  have hl1 := rises_cap hv hr1
  have hl2 := rises_cap hv hr2
  have hl12 : (xs1 ++ xs2).length ≤ 240 := by simp; omega
  go_enter Tryz.func25, Tryz.ntmps25
  go_wp2_with fail
  refine (cb (c_ValidRings A0 c0 xs0 w hn0 hw0 hA0) hv).mono ?_
  rintro e w1 ⟨rfl, hx⟩
  go_wp2_with fail
  refine (c_seatCount A0 c0 xs0 w1 hn0 (rings_cnt HV.out) (hA0.x hx)).mono ?_
  rintro e w2 ⟨rfl, hx2⟩
  go_wp2_with fail
  refine (cb (c_areIndices A1 c1 xs1 (sumCount xs0) w2 hn1 hs0 (by omega) (hA1.x (hx.trans hx2))) hr1).mono ?_
  rintro e w3 ⟨rfl, hx3⟩
  replace hx := (hx.trans hx2).trans hx3
  clear hx2 hx3
  go_wp2_with fail
  refine (c_seatCount A0 c0 xs0 w3 hn0 (rings_cnt HV.out) (hA0.x hx)).mono ?_
  rintro e w4 ⟨rfl, hx2⟩
  go_wp2_with fail
  refine (cb (c_areIndices A2 c2 xs2 (sumCount xs0) w4 hn2 hs0 (by omega) (hA2.x (hx.trans hx2))) hr2).mono ?_
  rintro e w5 ⟨rfl, hx3⟩
  replace hx := (hx.trans hx2).trans hx3
  clear hx2 hx3

  clear hv hr1 hr2
  go_wp2_with fail
  obtain ⟨W, hW⟩ : ∃ W, W = w5.alloc (.cells #[.slice A1 xs1.length c1, .slice A2 xs2.length c2] 46) := ⟨_, rfl⟩
  have hx6 : IsX w5 W := hW ▸ (IsX.refl w5).alloc _
  have hB : Blk W w5.heap.size 46 #[.slice A1 xs1.length c1, .slice A2 xs2.length c2] := hW ▸ Blk.new w5 _ _
  rw [← hW]
  clear hW
  replace hx := hx.trans hx6
  clear hx6
  refine (c_Concat w5.heap.size _ A1 c1 xs1 A2 c2 xs2 W hn1 hn2 (hA1.x hx) (hA2.x hx) hB).mono ?_
  rintro e w6 ⟨A, c, rfl, hO, hx7⟩
  replace hO := hO.mono hx.size
  replace hx := hx.trans hx7
  clear hx7 hB
  obtain ⟨zs, hzs⟩ : ∃ zs, zs = xs1 ++ xs2 := ⟨_, rfl⟩
  have HZS := hide hzs
  rw [← hzs] at hO hl12 ⊢
  clear hzs
  have HO := hide hO
  clear hO
  go_wp2_with fail
  refine (c_Sort w A c zs w.heap.size w6 HO.out hx (Nat.le_refl _) (by omega)).mono ?_
  rintro e w7 ⟨rfl, hO7, hx7⟩
  have HO7 := hide hO7
  have hsl := sortI_len zs
  rw [← hsl]
  rw [← hsl] at hl12
  clear hsl
  clear hO7 HO hx
  go_wp2_with fail
  refine (c_seatCount A0 c0 xs0 w7 hn0 (rings_cnt HV.out) (hA0.x hx7)).mono ?_
  rintro e w8 ⟨rfl, hx8⟩
  replace HO7 := hide (HO7.out.x hx8)
  replace hx7 := hx7.trans hx8
  clear hx8
  go_wp2_with fail
  cases hd : xs2.any (hasB xs1)
  · have HB := hide (book_ok HOK.out hd)
    refine (cb (c_areIndices A c (sortI zs) (sumCount xs0) w8 (by omega) hs0 (by omega) (HO7.out.rd (by omega) intC_len rfl)) (by rw [HZS.out, HRS.out, hd]; try rfl)).mono ?_
    rintro e w9 ⟨rfl, hx9⟩
    replace HO7 := hide (HO7.out.x hx9)
    replace hx7 := hx7.trans hx9
    have HE := hide (show sortI zs = _ from HZS.out ▸ HFO.out hd)
    go_wp2_with fail
    go_ret2
    refine ⟨A, c, by rw [HB.out.1, HB.out.2, ← HE.out]; rfl, ?_, hx7⟩
    rw [HB.out.1, ← HE.out]
    exact HO7.out
  · have HB := hide (book_bad2 HOK.out hd)
    refine (cb (c_areIndices A c (sortI zs) (sumCount xs0) w8 (by omega) hs0 (by omega) (HO7.out.rd (by omega) intC_len rfl)) (by rw [HZS.out, HRS.out, hd]; try rfl)).mono ?_
    rintro e w9 ⟨rfl, hx9⟩
    replace hx7 := hx7.trans hx9
    go_wp2_with fail
    go_ret2
    exact SlPost.none HB.out.1 (by rw [HB.out.2]; rfl) hx7

end Go.Proofs.YtfcfgkkkepifhaaGreatDoor
