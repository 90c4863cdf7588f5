/- The first free seats side by side: FirstBlock of the reference. Conditions: lists no longer than 2^40. -/
import Derived.Test.YtadmpefbpklibaaDoorFirstLaw
namespace Go.Proofs.YtadmpefbpklibaaDoor
set_option linter.unusedVariables false
open Go.RowKit

def blockZ (xs : List RingD) (ps : List Int) (n : Nat) (k : Int) : List Int := if blockB xs ps n k = true then blockL k n else []
section
variable {xs : List RingD} {ps : List Int} {n : Nat} {k : Int}
theorem blockZ_yes (h : blockB xs ps n k = true) : blockZ xs ps n k = blockL k n := by simp [blockZ, h]
theorem blockZ_no (h : blockB xs ps n k = false) : blockZ xs ps n k = [] := by simp [blockZ, h]
theorem block_cnt (h : cntAt xs k < seatN xs k + n) : blockB xs ps n k = false := by
  rw [blockB, decide_eq_false (by omega), Bool.false_and]
theorem block_has {j : Nat} (hj : j < n) (h : hasB ps (k + (j : Int)) = true) : blockB xs ps n k = false := by
  rw [blockB, Bool.and_eq_false_iff]
  right
  rw [List.all_eq_false]
  exact ⟨j, List.mem_range.2 hj, by simp [h]⟩
theorem block_yes (h : seatN xs k + n ≤ cntAt xs k) (h2 : ∀ j : Nat, j < n → hasB ps (k + (j : Int)) = false) : blockB xs ps n k = true := by
  rw [blockB, decide_eq_true h, Bool.true_and, List.all_eq_true]
  intro j hj
  simp [h2 j (List.mem_range.1 hj)]
theorem many_bad {n : Int} (h : bookedB xs ps = false) : manyC xs ps n = 1 := by simp [manyC, h]
theorem many_range {n : Int} (h : bookedB xs ps = true) (h2 : inB n 1 60 = false) : manyC xs ps n = 2 := by simp [manyC, h, h2]
theorem many_ok {n : Int} (h : bookedB xs ps = true) (h2 : inB n 1 60 = true) : manyC xs ps n = 0 := by simp [manyC, h, h2]
theorem many_zero {n : Int} (h : manyC xs ps n = 0) : bookedB xs ps = true ∧ inB n 1 60 = true := by
  cases h1 : bookedB xs ps
  · rw [many_bad h1] at h; omega
  · cases h2 : inB n 1 60
    · rw [many_range h1 h2] at h; omega
    · exact ⟨rfl, rfl⟩
theorem first_bad {n : Int} (h : manyC xs ps n ≠ 0) : firstZ xs ps n = [] ∧ firstC xs ps n = manyC xs ps n := by simp [firstZ, firstC, h]
theorem first_some {m q : Nat} (hz : manyC xs ps (n : Int) = 0) (hm : sumCount xs = (m : Int)) (h : firstB (blockB xs ps n) m = some q) : firstZ xs ps n = blockL q n ∧ firstC xs ps n = 0 := by
  have h' : firstB (blockB xs ps ((n : Int)).toNat) (sumCount xs).toNat = some q := by rw [hm]; simpa using h
  simp only [firstZ, firstC, hz, h']
  simp
theorem first_nil {m : Nat} (hz : manyC xs ps (n : Int) = 0) (hm : sumCount xs = (m : Int)) (h : firstB (blockB xs ps n) m = none) : firstZ xs ps n = [] ∧ firstC xs ps n = 3 := by
  have h' : firstB (blockB xs ps ((n : Int)).toNat) (sumCount xs).toNat = none := by rw [hm]; simpa using h
  simp only [firstZ, firstC, hz, h']
  simp
end
theorem step_hn {P : Nat → Bool} {q : Nat} (h : ∀ i : Nat, i < q → P i = false) (hq : P q = false) : ∀ i : Nat, i < q + 1 → P i = false := fun i hi => by
  by_cases e : i = q
  · subst e; exact hq
  · exact h i (by omega)

set_option maxHeartbeats 800000 in
theorem c_l23Many (A0 : Option Addr) (c0 : Nat) (xs0 : List RingD) (A1 : Option Addr) (c1 : Nat) (xs1 : List Int) (n2 : Int) (w : World) (hn0 : xs0.length ≤ 1099511627776) (hw0 : ∀ x ∈ xs0, x.wf) (hA0 : Rd RingD.cells 5 w A0 xs0) (hn1 : xs1.length ≤ 1099511627776) (hw1 : ∀ x ∈ xs1, intWf x) (hA1 : Rd intC 1 w A1 xs1) (hb2 : intWf n2) : Calls Tryd.prog 29 #[.slice A0 xs0.length c0, .slice A1 xs1.length c1, .int .i64 n2] w fun e w' => e = .returned (.int .i64 (manyC xs0 xs1 n2)) ∧ IsX w w' := by
  cases hbk : bookedB xs0 xs1
  · have HR := hide (many_bad (n := n2) hbk)
    have HB := hide (show bookedC xs0 xs1 = 1 by simp [bookedC, hbk])
    go_enter Tryd.func29, Tryd.ntmps29
    go_wp2_with fail
    refine (c_l23Booked A0 c0 xs0 A1 c1 xs1 w hn0 hw0 hA0 hn1 hw1 hA1).mono ?_
    rintro e w1 ⟨rfl, hx⟩
    rw [HB.out]
    go_wp2_with fail
    go_ret
    exact ⟨by rw [HR.out]; rfl, hx⟩
  have HB := hide (show bookedC xs0 xs1 = 0 by simp [bookedC, hbk])
  cases hin : inB n2 1 60
  · have HR := hide (many_range hbk hin)
    go_enter Tryd.func29, Tryd.ntmps29
    go_wp2_with fail
    refine (c_l23Booked A0 c0 xs0 A1 c1 xs1 w hn0 hw0 hA0 hn1 hw1 hA1).mono ?_
    rintro e w1 ⟨rfl, hx⟩
    rw [HB.out]
    go_wp2_with (go_at_call 37; refine (cb (c_in n2 1 60 _) hin).mono ?_; rintro e w' ⟨rfl, rfl⟩)
    go_ret
    exact ⟨by rw [HR.out]; rfl, hx⟩
  · have HR := hide (many_ok hbk hin)
    go_enter Tryd.func29, Tryd.ntmps29
    go_wp2_with fail
    refine (c_l23Booked A0 c0 xs0 A1 c1 xs1 w hn0 hw0 hA0 hn1 hw1 hA1).mono ?_
    rintro e w1 ⟨rfl, hx⟩
    rw [HB.out]
    go_wp2_with (go_at_call 37; refine (cb (c_in n2 1 60 _) hin).mono ?_; rintro e w' ⟨rfl, rfl⟩)
    go_ret
    exact ⟨by rw [HR.out]; rfl, hx⟩

set_option maxHeartbeats 3200000 in
theorem c_l23Block (A0 : Option Addr) (c0 : Nat) (xs : List RingD) (A1 : Option Addr) (c1 : Nat) (ps : List Int) (k : Int) (n : Nat) (w : World) (hv : ringsB xs = true) (h0 : 0 ≤ k) (h1 : k < sumCount xs) (hn1 : 1 ≤ n) (hn2 : n ≤ 60)
    (hl0 : xs.length ≤ 1099511627776) (hl1 : ps.length ≤ 1099511627776) (hA0 : Rd RingD.cells 5 w A0 xs) (hA1 : Rd intC 1 w A1 ps) :
    Calls Tryd.prog 31 #[.slice A0 xs.length c0, .slice A1 ps.length c1, .int .i64 k, .int .i64 (n : Int)] w fun e w' => ∃ A c, e = .returned (.slice A (blockZ xs ps n k).length c) ∧ Own intC 1 2 w' w.heap.size (.slice A (blockZ xs ps n k).length c) (blockZ xs ps n k) ∧ IsX w w' := by
  have hc := rings_cnt hv
  have hs120 := (rings_len hv).2
  have hk120 : k < 120 := by omega
  have hlt := seatI_lt xs k h1 h0
  obtain ⟨j, hj⟩ : ∃ j, j = seatI xs k := ⟨_, rfl⟩
  obtain ⟨sn, hsn⟩ : ∃ s, s = seatN xs k := ⟨_, rfl⟩
  have hlt' : j < xs.length := hj ▸ hlt
  have HCT := hide (show cntAt xs k = xs[j].Count from by subst hj; exact cntAt_eq hlt)
  have hcb : 1 ≤ xs[j].Count ∧ xs[j].Count ≤ 60 := by have := rings_ok hv _ (List.getElem_mem hlt'); omega
  have hsb : 0 ≤ sn ∧ sn < 60 := by
    obtain ⟨g1, g2, g3⟩ := seatN_bd hc k h0 h1
    have := rings_ok hv _ (List.getElem_mem g2)
    subst hsn
    omega
  obtain ⟨y1, y2⟩ := hcb
  obtain ⟨z1, z2⟩ := hsb
  have hA0' := hA0
  obtain ⟨b, off, hb1, hb, d0, d1, d2, d3, d4⟩ := RingD.rd hA0' (show xs[j]? = some xs[j] from List.getElem?_eq_getElem _)
  have HI := hide (info_parts Int64_info)
  have HJ := hide hj
  have HSN := hide hsn
  have HB := hide hb1
  have HA1 := hide hA1
  clear hj hsn hA0' hb1 hA1
  go_enter Tryd.func31, Tryd.ntmps31
  go_wp2_with fail
  refine (c_l23Split A0 c0 xs k w hl0 hc h0 h1 (by omega) hA0).mono ?_
  rintro e w1 ⟨rfl, p, rfl⟩
  rw [← HJ.out, ← HSN.out]
  clear hA0
  have hb1 := HB.out
  subst hb1
  by_cases hg : xs[j].Count < sn + n
  · have HZ := hide (show blockZ xs ps n k = [] from blockZ_no (block_cnt (by rw [HCT.out, ← HSN.out]; exact hg)))
    go_wp2_with fail
    go_ret
    refine ⟨_, _, by rw [HZ.out]; rfl, ?_, IsX.alloc ⟨p, rfl⟩ _⟩
    rw [HZ.out]
    exact row_le (World.ownsRow_made (xt w p) #[] 0 (Nat.le_refl _) (by simp [maxLen]) rfl) (size_xt w p)
  · have HG := hide hg
    go_wp2_with fail
    have HO : Hid (((xt w p).alloc (.cells #[] 2)).ownsRow w.heap.size 2 1 (.slice (some ⟨(xt w p).heap.size, 0, none⟩) 0 0) 0 []) := hide (row_le (World.ownsRow_made (xt w p) #[] 0 (Nat.le_refl _) (by simp [maxLen]) rfl) (size_xt w p))
    clear d0 d1 d2 d3 d4 hg
    go_loopw [11, 12] (fun ov jv wr => ∃ q : Nat, q ≤ n ∧ jv = .int .i64 (k + (q : Int)) ∧ Hid (wr.ownsRow w.heap.size 2 1 ov q ((blockL k q).flatMap intC)) ∧ Hid (∀ i : Nat, i < q → hasB ps (k + (i : Int)) = false) ∧ IsX w wr) (fun _ jv _ => (k + n - intOf jv).toNat)
    case atStart => exact ⟨0, Nat.zero_le _, by simp, HO, hide (fun i hi => absurd hi (by omega)), IsX.alloc ⟨p, rfl⟩ _⟩
    case round =>
      clear HO
      obtain ⟨q, hq, rfl, HO, HF, p2, rfl⟩ := hrel
      by_cases hqn : q < n
      · cases hh : hasB ps (k + (q : Int))
        · have HF' := hide (step_hn (P := fun i => hasB ps (k + (i : Int))) HF.out hh)
          go_wp2_with first | (go_at_call 54; refine (cb (c_l00Has A1 c1 ps (k + (q : Int)) _ hl1 (HA1.out.x ⟨p2, rfl⟩)) hh).mono ?_; rintro e w2 ⟨rfl, hx2⟩; have HO := own_x HO.out hx2; replace HO := hide HO; obtain ⟨p2, rfl⟩ := IsX.trans ⟨p2, rfl⟩ hx2; clear hx2) | (at_builtin; obtain ⟨i0, hi0, hz0, hz1, hz2⟩ := HI.out; refine wpList_append_any _ rfl (.tmp 42) (.tmp 44) _ rfl w.heap.size 2 i0 _ 1 8 Tryd.underlying35 hi0 hz0 hz1 hz2 rfl (by omega) _ q ((blockL k q).flatMap intC) rfl (HO.out.alloc _) _ (some ⟨(xt w p2).heap.size, 0, none⟩) 1 1 [.int .i64 (k + (q : Int))] rfl (one_reads' (xt w p2) 2 (k + (q : Int))) (one_one' (k + (q : Int))) (by simp only [maxLen]; omega) (by omega) (by have := size_xt w p2; simp; omega) ?_; clear hi0 hz0 hz1 hz2; intro v1 w1 hown1 hg1 hat1; have HO1 := hide hown1; have hx1 : IsX w w1 := IsX.grown (IsX.alloc (w' := xt w p2) ⟨p2, rfl⟩ _) hg1 (by intro z hz; exact (HO.out.lt z hz).1); clear hown1 hg1 hat1; obtain ⟨p1, rfl⟩ := hx1)
          go_roundw
          case rel => exact ⟨q + 1, by omega, by first | go_num | (congr 1; omega), hide (by rw [blockL_succ, List.flatMap_append]; exact HO1.out), HF', ⟨p1, rfl⟩⟩
          case measure => simp [intOf]; omega
        · have HZ := hide (show blockZ xs ps n k = [] from blockZ_no (block_has hqn hh))
          go_wp2_with (go_at_call 54; refine (cb (c_l00Has A1 c1 ps (k + (q : Int)) _ hl1 (HA1.out.x ⟨p2, rfl⟩)) hh).mono ?_; rintro e w2 ⟨rfl, hx2⟩; have HO := own_x HO.out hx2; replace HO := hide HO; obtain ⟨p2, rfl⟩ := IsX.trans ⟨p2, rfl⟩ hx2; clear hx2)
          go_ret
          refine ⟨_, _, by rw [HZ.out]; rfl, ?_, IsX.alloc ⟨p2, rfl⟩ _⟩
          rw [HZ.out]
          exact row_le (World.ownsRow_made (xt w p2) #[] 0 (Nat.le_refl _) (by simp [maxLen]) rfl) (size_xt w p2)
      · obtain rfl : q = n := by omega
        have HZ := hide (show blockZ xs ps q k = blockL k q from blockZ_yes (block_yes (by rw [HCT.out, ← HSN.out]; have := HG.out; omega) HF.out))
        obtain ⟨A', c', hform⟩ := row_slice HO.out
        subst hform
        go_wp2_with fail
        go_ret
        refine ⟨A', c', by rw [HZ.out, blockL_len]; rfl, ?_, ⟨p2, rfl⟩⟩
        rw [HZ.out]
        unfold Own
        rw [blockL_len]
        exact HO.out

set_option maxHeartbeats 800000 in
theorem c_checkBlock (A0 : Option Addr) (c0 : Nat) (xs0 : List RingD) (A1 : Option Addr) (c1 : Nat) (xs1 : List Int) (n2 : Int) (w : World) (hn0 : xs0.length ≤ 1099511627776) (hw0 : ∀ x ∈ xs0, x.wf) (hA0 : Rd RingD.cells 5 w A0 xs0) (hn1 : xs1.length ≤ 1099511627776) (hw1 : ∀ x ∈ xs1, intWf x) (hA1 : Rd intC 1 w A1 xs1) (hb2 : intWf n2) : Calls Tryd.prog 32 #[.slice A0 xs0.length c0, .slice A1 xs1.length c1, .int .i64 n2] w fun e w' => e = .returned (.int .i64 (manyC xs0 xs1 n2)) ∧ IsX w w' := by
  cases hv : ringsB xs0
  · have HR := hide (many_bad (xs := xs0) (ps := xs1) (n := n2) (by simp [bookedB, hv]))
    go_enter Tryd.func32, Tryd.ntmps32
    go_wp2_with fail
    refine (cb (c_ValidRings A0 c0 xs0 w hn0 hw0 hA0) hv).mono ?_
    rintro e w1 ⟨rfl, hx⟩
    go_wp2_with fail
    go_ret
    exact ⟨by rw [HR.out]; rfl, hx⟩
  have HV := hide hv
  have hs0 := sumCount_nn hv
  have hs1 := (rings_len hv).2
  cases hr : risesB xs1 0 (sumCount xs0 - 1)
  · have HR := hide (many_bad (xs := xs0) (ps := xs1) (n := n2) (by simp [bookedB, hr]))
    go_enter Tryd.func32, Tryd.ntmps32
    go_wp2_with fail
    refine (cb (c_ValidRings A0 c0 xs0 w hn0 hw0 hA0) hv).mono ?_
    rintro e w1 ⟨rfl, hx⟩
    go_wp2_with fail
    refine (c_seatCount A0 c0 xs0 w1 hn0 (rings_cnt HV.out) (hA0.x hx)).mono ?_
    rintro e w2 ⟨rfl, hx2⟩
    go_wp2_with fail
    refine (cb (c_areIndices A1 c1 xs1 (sumCount xs0) w2 hn1 hs0 (by omega) (hA1.x (hx.trans hx2))) hr).mono ?_
    rintro e w3 ⟨rfl, hx3⟩
    replace hx := (hx.trans hx2).trans hx3
    clear hx2 hx3
    go_wp2_with fail
    go_ret
    exact ⟨by rw [HR.out]; rfl, hx⟩
  have hbk : bookedB xs0 xs1 = true := by simp [bookedB, hv, hr]
  cases hin : inB n2 1 60
  · have HR := hide (many_range hbk hin)
    go_enter Tryd.func32, Tryd.ntmps32
    go_wp2_with fail
    refine (cb (c_ValidRings A0 c0 xs0 w hn0 hw0 hA0) hv).mono ?_
    rintro e w1 ⟨rfl, hx⟩
    go_wp2_with fail
    refine (c_seatCount A0 c0 xs0 w1 hn0 (rings_cnt HV.out) (hA0.x hx)).mono ?_
    rintro e w2 ⟨rfl, hx2⟩
    go_wp2_with fail
    refine (cb (c_areIndices A1 c1 xs1 (sumCount xs0) w2 hn1 hs0 (by omega) (hA1.x (hx.trans hx2))) hr).mono ?_
    rintro e w3 ⟨rfl, hx3⟩
    replace hx := (hx.trans hx2).trans hx3
    clear hx2 hx3
    go_wp2_with (go_at_call 48; refine (cb (c_within n2 1 60 _) hin).mono ?_; rintro e w' ⟨rfl, rfl⟩)
    go_ret
    exact ⟨by rw [HR.out]; rfl, hx⟩
  · have HR := hide (many_ok hbk hin)
    go_enter Tryd.func32, Tryd.ntmps32
    go_wp2_with fail
    refine (cb (c_ValidRings A0 c0 xs0 w hn0 hw0 hA0) hv).mono ?_
    rintro e w1 ⟨rfl, hx⟩
    go_wp2_with fail
    refine (c_seatCount A0 c0 xs0 w1 hn0 (rings_cnt HV.out) (hA0.x hx)).mono ?_
    rintro e w2 ⟨rfl, hx2⟩
    go_wp2_with fail
    refine (cb (c_areIndices A1 c1 xs1 (sumCount xs0) w2 hn1 hs0 (by omega) (hA1.x (hx.trans hx2))) hr).mono ?_
    rintro e w3 ⟨rfl, hx3⟩
    replace hx := (hx.trans hx2).trans hx3
    clear hx2 hx3
    go_wp2_with (go_at_call 48; refine (cb (c_within n2 1 60 _) hin).mono ?_; rintro e w' ⟨rfl, rfl⟩)
    go_ret
    exact ⟨by rw [HR.out]; rfl, hx⟩

end Go.Proofs.YtadmpefbpklibaaDoor
