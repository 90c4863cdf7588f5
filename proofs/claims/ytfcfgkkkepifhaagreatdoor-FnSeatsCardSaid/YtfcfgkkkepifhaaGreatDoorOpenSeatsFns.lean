/- The open seats: OpenSeats of the reference and of the program. Conditions: lists no longer than 2^40. -/
import Derived.Test.YtfcfgkkkepifhaaGreatDoorSeats
import Derived.Test.YtfcfgkkkepifhaaGreatDoorMarks
import Derived.Test.YtfcfgkkkepifhaaGreatDoorNumsOwn
import Derived.StillTailTactics
namespace Go.Proofs.YtfcfgkkkepifhaaGreatDoor
set_option linter.unusedVariables false
open Go.RowKit

def hasB (xs : List Int) (k : Int) : Bool := decide (k ∈ xs)
theorem has_yes {xs : List Int} {k : Int} {i : Nat} (h : i < xs.length) (e : xs[i] = k) : hasB xs k = true := by
  simp only [hasB, decide_eq_true_eq]; exact e ▸ List.getElem_mem h
theorem has_no {xs : List Int} {k : Int} (h : ∀ i (h : i < xs.length), xs[i] ≠ k) : hasB xs k = false := by
  simp only [hasB, decide_eq_false_iff_not]
  intro hm
  obtain ⟨i, hi, e⟩ := List.getElem_of_mem hm
  exact h i hi e
def openTo (ps : List Int) (k : Nat) : List Int := ((List.range k).map (fun (i : Nat) => (i : Int))).filter (fun i => !hasB ps i)
theorem open_yes {ps : List Int} {k : Nat} (h : hasB ps k = false) : openTo ps (k + 1) = openTo ps k ++ [(k : Int)] := by simp [openTo, List.range_succ, h]
theorem open_no {ps : List Int} {k : Nat} (h : hasB ps k = true) : openTo ps (k + 1) = openTo ps k := by simp [openTo, List.range_succ, h]
theorem open_len (ps : List Int) (k : Nat) : (openTo ps k).length ≤ k := by
  have := List.length_filter_le (fun i => !hasB ps i) ((List.range k).map (fun (i : Nat) => (i : Int)))
  simpa [openTo] using this
def openZ (xs : List RingD) (ps : List Int) : List Int := if bookedB xs ps then openTo ps (sumCount xs).toNat else []
theorem openZ_len (xs : List RingD) (ps : List Int) : (openZ xs ps).length ≤ 1099511627776 := by
  unfold openZ
  split
  · rename_i h
    simp only [bookedB, Bool.and_eq_true] at h
    have h1 := (rings_len h.1).2
    have h2 := open_len ps (sumCount xs).toNat
    omega
  · simp
theorem one_reads' (w : World) (t : Nat) (u : Int) : Reads (w.alloc (.cells #[.int .i64 u] t)) (w.alloc (.cells #[.int .i64 u] t)).heap.size 1 (some ⟨w.heap.size, 0, none⟩) 1 [.int .i64 u] :=
  Rd.reads (cells := intC) (xs := [u]) (by omega) intC_len (Blk.rd (cells := intC) (xs := [u]) (t := t) intC_len (Blk.new w t #[.int .i64 u]))
theorem one_one' (u : Int) : ∀ x ∈ [Value.int .i64 u], x.oneCell' = true := by
  intro x hx
  simp only [List.mem_singleton] at hx
  subst hx; rfl
theorem row_le {w : World} {base base' e size n : Nat} {v : Value} {L : List Value} (h : w.ownsRow base e size v n L) (hb : base' ≤ base) : w.ownsRow base' e size v n L := by
  refine ⟨h.1, ?_⟩
  rcases h.2 with h2 | ⟨g, cap, cur, hv, hg, r⟩
  · exact .inl h2
  · exact .inr ⟨g, cap, cur, hv, Nat.le_trans hb hg, r⟩
theorem row_slice {w : World} {base e size n : Nat} {v : Value} {L : List Value} (h : w.ownsRow base e size v n L) : ∃ A c, v = .slice A n c := by
  rcases h.2 with ⟨rfl, rfl⟩ | ⟨g, cap, cur, hv, _⟩
  · exact ⟨none, 0, rfl⟩
  · exact ⟨_, _, hv⟩

theorem c_less (a b : Int) (w : World) : Calls Tryz.prog 111 #[.int .i64 a, .int .i64 b] w fun e w' => e = .returned (.bool (decide (a < b))) ∧ w = w' := by
  go_enter Tryz.func111, Tryz.ntmps111
  go_wp2_with (go_at_call 80; refine (show Calls Tryz.prog 80 #[.int .i64 _] _ (fun e w' => e = .returned (.bool false) ∧ _ = w') from by
    go_enter Tryz.func80, Tryz.ntmps80
    go_wp2
    go_ret
    exact ⟨rfl, rfl⟩).mono ?_; rintro e w' ⟨rfl, rfl⟩)
  go_ret
  exact ⟨rfl, rfl⟩
theorem c_nan (a : Int) (w : World) : Calls Tryz.prog 112 #[.int .i64 a] w fun e w' => e = .returned (.bool false) ∧ w = w' := by
  go_enter Tryz.func112, Tryz.ntmps112
  go_wp2
  go_ret
  exact ⟨by simp, rfl⟩
set_option maxHeartbeats 1600000 in
theorem c_BinarySearch (A : Option Addr) (c : Nat) (xs : List Int) (k : Int) (lo hi : Int) (w : World) (hn : xs.length ≤ 1099511627776) (hs : risesB xs lo hi = true) (hA : Rd intC 1 w A xs) :
    Calls Tryz.prog 78 #[.slice A xs.length c, .int .i64 k] w fun e w' => ∃ i : Int, e = .returned (.tuple #[.int .i64 i, .bool (hasB xs k)]) ∧ IsX w w' := by
  obtain ⟨n, hnn⟩ : ∃ n, n = xs.length := ⟨_, rfl⟩
  have HN := hide hnn
  have HS := hide hs
  rw [← hnn] at hn ⊢
  clear hnn hs
  go_enter Tryz.func78, Tryz.ntmps78
  go_wp2
  go_loopw [7, 8] (fun iv jv wr => ∃ i j : Nat, i ≤ j ∧ j ≤ n ∧ iv = .int .i64 i ∧ jv = .int .i64 j ∧ Hid (∀ q (h : q < xs.length), q < i → xs[q] < k) ∧ Hid (∀ q (h : q < xs.length), j ≤ q → k ≤ xs[q]) ∧ IsX w wr) (fun iv jv _ => (intOf jv).toNat - (intOf iv).toNat)
  case atStart => exact ⟨0, n, Nat.zero_le _, Nat.le_refl _, rfl, rfl, hide (fun q h hq => absurd hq (by omega)), hide (fun q h hq => absurd hq (by have := HN.out; omega)), IsX.refl _⟩
  case round =>
    obtain ⟨i, j, hij, hjn, rfl, rfl, HL, HH, p, rfl⟩ := hrel
    by_cases hlt : i < j
    · obtain ⟨m, hm⟩ : ∃ m, m = (i + j) / 2 := ⟨_, rfl⟩
      have hmn : m < n := by omega
      have hmx : m < xs.length := HN.out ▸ hmn
      obtain ⟨b, off, rfl, hb, c0⟩ := int_rd hA (show xs[m]? = some xs[m] from List.getElem?_eq_getElem _)
      obtain ⟨v, hv⟩ : ∃ v, v = xs[m] := ⟨_, rfl⟩
      have HV := hide hv
      rw [← hv] at c0
      rw [hm] at c0
      have hm1 := hide (show Value.int .i64 (((i : Int) + j) / 2 + 1) = .int .i64 ((m + 1 : Nat) : Int) by rw [show (((m + 1 : Nat)) : Int) = ((i : Int) + j) / 2 + 1 by omega])
      have hm0 := hide (show Value.int .i64 (((i : Int) + j) / 2) = .int .i64 (m : Int) by rw [show ((m : Nat) : Int) = ((i : Int) + j) / 2 by omega])
      clear hA hv
      cases hvk : decide (v < k)
      · have HH' := hide (show ∀ q (h : q < xs.length), m ≤ q → k ≤ xs[q] from fun q h hq => by
          have hge := of_decide_eq_false hvk
          have hv := HV.out
          by_cases e : m = q
          · subst e; omega
          · have := rises_pair HS.out (show m < q by omega) h; omega)
        go_wp2_with (go_at_call 111; refine (cb (c_less v k _) hvk).mono ?_; rintro e w' ⟨rfl, rfl⟩)
        go_roundw
        case rel => exact ⟨i, m, by omega, by omega, rfl, hm0.out, HL, HH', ⟨p, rfl⟩⟩
        case measure => rw [hm0.out]; simp [intOf]; omega
      · have HL' := hide (show ∀ q (h : q < xs.length), q < m + 1 → xs[q] < k from fun q h hq => by
          have hge := of_decide_eq_true hvk
          have hv := HV.out
          by_cases e : q = m
          · subst e; omega
          · have := rises_pair HS.out (show q < m by omega) hmx; omega)
        go_wp2_with (go_at_call 111; refine (cb (c_less v k _) hvk).mono ?_; rintro e w' ⟨rfl, rfl⟩)
        go_roundw
        case rel => exact ⟨m + 1, j, by omega, by omega, hm1.out, rfl, HL', HH, ⟨p, rfl⟩⟩
        case measure => rw [hm1.out]; simp [intOf]; omega
    · obtain rfl : i = j := by omega
      by_cases hin : i < n
      · have hix : i < xs.length := HN.out ▸ hin
        obtain ⟨b, off, rfl, hb, c0⟩ := int_rd hA (show xs[i]? = some xs[i] from List.getElem?_eq_getElem _)
        clear hA
        by_cases he : xs[i] = k
        · have HR := hide (has_yes hix he)
          have hbe : (xs[i] == k) = true := by simpa using he
          clear he
          go_wp2
          go_ret2
          exact ⟨_, by rw [HR.out]; rfl, ⟨p, rfl⟩⟩
        · have hbe : (xs[i] == k) = false := by simpa using he
          have HR := hide (has_no (k := k) (fun q h => by
            by_cases e : q = i
            · subst e; exact he
            · by_cases e2 : q < i
              · have := HL.out q h e2; omega
              · have h1 := rises_pair HS.out (show i < q by omega) h
                have h2 := HH.out i hix (Nat.le_refl _)
                omega))
          clear he
          go_wp2
          go_ret2
          exact ⟨_, by rw [HR.out]; rfl, ⟨p, rfl⟩⟩
      · have HR := hide (has_no (k := k) (fun q h => by have := HL.out q h (by have := HN.out; omega); omega))
        clear hA
        go_wp2
        go_ret2
        exact ⟨_, by rw [HR.out]; rfl, ⟨p, rfl⟩⟩

set_option maxHeartbeats 3200000 in
theorem c_openSeats (A0 : Option Addr) (c0 : Nat) (xs : List RingD) (A1 : Option Addr) (c1 : Nat) (ps : List Int) (w : World) (hv : ringsB xs = true) (hr : risesB ps 0 (sumCount xs - 1) = true) (hn0 : xs.length ≤ 1099511627776) (hn1 : ps.length ≤ 1099511627776)
    (hA0 : Rd RingD.cells 5 w A0 xs) (hA1 : Rd intC 1 w A1 ps) :
    Calls Tryz.prog 45 #[.slice A0 xs.length c0, .slice A1 ps.length c1] w fun e w' => ∃ A c, e = .returned (.slice A (openTo ps (sumCount xs).toNat).length c) ∧ Own intC 1 2 w' w.heap.size (.slice A (openTo ps (sumCount xs).toNat).length c) (openTo ps (sumCount xs).toNat) ∧ IsX w w' := by
  have hs0 := sumCount_nn hv
  have hs1 := (rings_len hv).2
  have HI := hide (info_parts Int64_info)
  have HC := hide (rings_cnt hv)
  have HRS := hide hr
  obtain ⟨n, hnn⟩ := Int.eq_ofNat_of_zero_le hs0
  have HN := hide (show (sumCount xs).toNat = n by omega)
  have hn120 : n ≤ 120 := by omega
  have hall := fun (W : World) (hx : IsX w W) => c_seatCount A0 c0 xs W hn0 HC.out (hA0.x hx)
  rw [hnn] at hall
  have HNN := hide hnn
  have HA1 := hide hA1
  clear hv hr hs0 hs1 hnn hA1
  go_enter Tryz.func45, Tryz.ntmps45
  go_wp2_with fail
  skip
  refine (hall _ (IsX.refl w)).mono ?_
  rintro e w1 ⟨rfl, hx⟩
  have HX := hide (IsX.trans (IsX.refl w) hx)
  have HO : Hid (w1.ownsRow w.heap.size 2 1 (.slice none 0 0) 0 []) := hide (World.ownsRow_nil _ _ _ _)
  clear hx hall hA0
  go_wp2_with fail
  go_loopw [5, 11] (fun ov iv wr => ∃ (k l : Nat), k ≤ n ∧ l ≤ k ∧ iv = .int .i64 k ∧ Hid (l = (openTo ps k).length) ∧ Hid (wr.ownsRow w.heap.size 2 1 ov l ((openTo ps k).flatMap intC)) ∧ IsX w wr) (fun _ iv _ => n - (intOf iv).toNat)
  case atStart => exact ⟨0, 0, Nat.zero_le _, Nat.le_refl _, rfl, hide rfl, HO, HX.out⟩
  case round =>
    clear HO
    obtain ⟨k, l, hk, hlk, rfl, HL, HO, q, rfl⟩ := hrel
    by_cases hlt : k < n
    · cases hh : hasB ps (k : Int)
      · have HY := hide (open_yes hh)
        go_wp2_with first | (go_at_call 78; refine (c_BinarySearch A1 c1 ps (k : Int) _ _ _ hn1 HRS.out (HA1.out.x ⟨q, rfl⟩)).mono ?_; rintro e w2 ⟨i2, rfl, hx2⟩; rw [hh]; have HO := own_x HO.out hx2; replace HO := hide HO; obtain ⟨q, rfl⟩ := IsX.trans ⟨q, rfl⟩ hx2; clear hx2) | (at_builtin; obtain ⟨i0, hi0, hz0, hz1, hz2⟩ := HI.out; refine wpList_append_any _ rfl (.tmp 22) (.tmp 24) _ rfl w.heap.size 2 i0 _ 1 8 Tryz.underlying46 hi0 hz0 hz1 hz2 rfl (by omega) _ l ((openTo ps k).flatMap intC) rfl (HO.out.alloc _) _ (some ⟨(xt w q).heap.size, 0, none⟩) 1 1 [.int .i64 (k : Int)] rfl (one_reads' (xt w q) 2 (k : Int)) (one_one' (k : Int)) (by simp only [maxLen]; omega) (by omega) (by have := size_xt w q; simp; omega) ?_; clear hi0 hz0 hz1 hz2; intro v1 w1 hown1 hg1 hat1; have HO1 := hide hown1; have hx1 : IsX w w1 := IsX.grown (IsX.alloc (w' := xt w q) ⟨q, rfl⟩ _) hg1 (by intro z hz; exact (HO.out.lt z hz).1); clear hown1 hg1 hat1; obtain ⟨p1, rfl⟩ := hx1)
        go_roundw
        case rel => exact ⟨k + 1, l + 1, by omega, by omega, by go_num, hide (by rw [HY.out, HL.out]; simp), hide (by
          rw [HY.out, List.flatMap_append]; exact HO1.out), ⟨p1, rfl⟩⟩
        case measure => simp [intOf]; omega
      · have HY := hide (open_no hh)
        go_wp2_with (go_at_call 78; refine (c_BinarySearch A1 c1 ps (k : Int) _ _ _ hn1 HRS.out (HA1.out.x ⟨q, rfl⟩)).mono ?_; rintro e w2 ⟨i2, rfl, hx2⟩; rw [hh]; have HO := own_x HO.out hx2; replace HO := hide HO; obtain ⟨q, rfl⟩ := IsX.trans ⟨q, rfl⟩ hx2; clear hx2)
        go_roundw
        case rel => exact ⟨k + 1, l, by omega, by omega, by go_num, hide (by rw [HY.out, HL.out]), hide (by rw [HY.out]; exact HO.out), ⟨q, rfl⟩⟩
        case measure => simp [intOf]; omega
    · obtain rfl : k = n := by omega
      obtain ⟨A', c', hform⟩ := row_slice HO.out
      subst hform
      go_wp2_with fail
      go_ret
      refine ⟨A', c', by rw [HN.out, ← HL.out]; rfl, ?_, ⟨q, rfl⟩⟩
      rw [HN.out, ← HL.out]
      have := HO.out
      rw [HL.out] at this ⊢
      exact this

set_option maxHeartbeats 1600000 in
theorem i_OpenSeats (A0 : Option Addr) (c0 : Nat) (xs0 : List RingD) (A1 : Option Addr) (c1 : Nat) (xs1 : List Int) (w : World) (hn0 : xs0.length ≤ 1099511627776) (hw0 : ∀ x ∈ xs0, x.wf) (hA0 : Rd RingD.cells 5 w A0 xs0) (hn1 : xs1.length ≤ 1099511627776) (hw1 : ∀ x ∈ xs1, intWf x) (hA1 : Rd intC 1 w A1 xs1) :
    Calls Tryz.prog 19 #[.slice A0 xs0.length c0, .slice A1 xs1.length c1] w (SlPost intC 1 2 w (openZ xs0 xs1) (bookedC xs0 xs1)) := by
  cases hv : ringsB xs0
  · have HR := hide (show bookedC xs0 xs1 = 1 by simp [bookedC, bookedB, hv])
    have HZ := hide (show openZ xs0 xs1 = [] by simp [openZ, bookedB, hv])
    go_enter Tryz.func19, Tryz.ntmps19
    go_wp2_with fail
    refine (cb (c_ValidRings A0 c0 xs0 w hn0 hw0 hA0) hv).mono ?_
    rintro e w1 ⟨rfl, hx⟩
    go_wp2_with fail
    go_ret2
    exact SlPost.none HZ.out (by rw [HR.out]; rfl) hx
  have HV := hide hv
  have hs0 := sumCount_nn hv
  have hs1 := (rings_len hv).2
  cases hr : risesB xs1 0 (sumCount xs0 - 1)
  · have HR := hide (show bookedC xs0 xs1 = 1 by simp [bookedC, bookedB, hr])
    have HZ := hide (show openZ xs0 xs1 = [] by simp [openZ, bookedB, hr])
    go_enter Tryz.func19, Tryz.ntmps19
    go_wp2_with fail
    refine (cb (c_ValidRings A0 c0 xs0 w hn0 hw0 hA0) hv).mono ?_
    rintro e w1 ⟨rfl, hx⟩
    go_wp2_with fail
    refine (c_seatCount A0 c0 xs0 w1 hn0 (rings_cnt HV.out) (hA0.x hx)).mono ?_
    rintro e w2 ⟨rfl, hx2⟩
    go_wp2_with fail
    refine (cb (c_areIndices A1 c1 xs1 (sumCount xs0) w2 hn1 hs0 (by omega) (hA1.x (hx.trans hx2))) hr).mono ?_
    rintro e w3 ⟨rfl, hx3⟩
    go_wp2_with fail
    go_ret2
    exact SlPost.none HZ.out (by rw [HR.out]; rfl) ((hx.trans hx2).trans hx3)
  have HR := hide (show bookedC xs0 xs1 = 0 by simp [bookedC, bookedB, hv, hr])
  have HZ := hide (show openZ xs0 xs1 = openTo xs1 (sumCount xs0).toNat by simp [openZ, bookedB, hv, hr])
  have HRS := hide hr
  go_enter Tryz.func19, Tryz.ntmps19
  go_wp2_with fail
  refine (cb (c_ValidRings A0 c0 xs0 w hn0 hw0 hA0) hv).mono ?_
  rintro e w1 ⟨rfl, hx⟩
  go_wp2_with fail
  refine (c_seatCount A0 c0 xs0 w1 hn0 (rings_cnt HV.out) (hA0.x hx)).mono ?_
  rintro e w2 ⟨rfl, hx2⟩
  go_wp2_with fail
  refine (cb (c_areIndices A1 c1 xs1 (sumCount xs0) w2 hn1 hs0 (by omega) (hA1.x (hx.trans hx2))) hr).mono ?_
  rintro e w3 ⟨rfl, hx3⟩
  have HX := hide ((hx.trans hx2).trans hx3)
  clear hx hx2 hx3 hv hr
  go_wp2_with fail
  refine (c_openSeats A0 c0 xs0 A1 c1 xs1 w3 HV.out HRS.out hn0 hn1 (hA0.x HX.out) (hA1.x HX.out)).mono ?_
  rintro e w4 ⟨A, c, rfl, hO, hx2⟩
  have HO := hide hO
  clear hO
  go_wp2_with fail
  go_ret2
  refine ⟨A, c, by rw [HR.out, HZ.out]; rfl, ?_, HX.out.trans hx2⟩
  rw [HZ.out]
  exact HO.out.mono HX.out.size

end Go.Proofs.YtfcfgkkkepifhaaGreatDoor
