/- The ring of a seat, prices and income: what the reference and the program compute. Conditions: those of Rings; a seat is one of the rings' seats. -/
import Derived.Test.YtfcfgkkkepifhaaGreatDoorRings
import Derived.Test.YtfcfgkkkepifhaaGreatDoorNums
namespace Go.Proofs.YtfcfgkkkepifhaaGreatDoor
set_option linter.unusedVariables false
open Go.RowKit

theorem rings_ok {xs : List RingD} (h : ringsB xs = true) : ∀ x ∈ xs, 500 ≤ x.Radius ∧ x.Radius ≤ 30000 ∧ 1 ≤ x.Count ∧ x.Count ≤ 60 ∧ 0 ≤ x.From ∧ x.From ≤ 359999 ∧ 1000 ≤ x.Step ∧ x.Step ≤ 90000 ∧ 0 ≤ x.Price ∧ x.Price ≤ 10000 ∧ x.Count * x.Step ≤ 360000 := by
  intro x hx
  simp only [ringsB, Bool.and_eq_true] at h
  have h1 := allGood_ok h.1.2 x hx
  simp only [RingD.okB, Bool.and_eq_true, decide_eq_true_eq] at h1
  have a := inB_true.1 h1.1.1.1.1.1
  have b := inB_true.1 h1.1.1.1.1.2
  have c := inB_true.1 h1.1.1.1.2
  have d := inB_true.1 h1.1.1.2
  have e := inB_true.1 h1.1.2
  exact ⟨a.1, a.2, b.1, b.2, c.1, c.2, d.1, d.2, e.1, e.2, h1.2⟩
theorem rings_len {xs : List RingD} (h : ringsB xs = true) : xs.length ≤ 6 ∧ sumCount xs ≤ 120 := by
  simp only [ringsB, Bool.and_eq_true, decide_eq_true_eq] at h
  exact ⟨h.1.1, h.2⟩
theorem rings_cnt {xs : List RingD} (h : ringsB xs = true) : ∀ x ∈ xs, 0 ≤ x.Count ∧ x.Count ≤ 1048576 := fun x hx => by have := rings_ok h x hx; omega
theorem sumCount_nn {xs : List RingD} (h : ringsB xs = true) : 0 ≤ sumCount xs := (sumCount_bd 1048576 (by omega) xs (rings_cnt h)).1
/-- the ring of seat k -/
def seatI : List RingD → Int → Nat
  | [], _ => 0
  | r :: rs, k => if k < r.Count then 0 else seatI rs (k - r.Count) + 1
def seatN (xs : List RingD) (k : Int) : Int := k - sumCount (xs.take (seatI xs k))
theorem sumCount_cons (r : RingD) (rs : List RingD) : sumCount (r :: rs) = r.Count + sumCount rs := by simp [sumCount]
theorem seatI_at : ∀ (xs : List RingD) (i : Nat) (k : Int), (∀ x ∈ xs, 0 ≤ x.Count ∧ x.Count ≤ 1048576) → i < xs.length → sumCount (xs.take i) ≤ k → k < sumCount (xs.take (i + 1)) → seatI xs k = i
  | [], i, k, _, hi, _, _ => by simp at hi
  | r :: rs, 0, k, h, _, _, h2 => by
    simp only [List.take_succ_cons, List.take_zero, sumCount_cons] at h2
    have : sumCount [] = 0 := rfl
    rw [this] at h2
    simp only [seatI]; rw [if_pos (by omega)]
  | r :: rs, i + 1, k, h, hi, h1, h2 => by
    simp only [List.take_succ_cons, sumCount_cons] at h1 h2
    have h3 := (sumCount_bd 1048576 (by omega) (rs.take i) (fun x hx => h x (List.mem_cons_of_mem _ (List.mem_of_mem_take hx)))).1
    simp only [seatI]
    rw [if_neg (by omega), seatI_at rs i (k - r.Count) (fun x hx => h x (List.mem_cons_of_mem _ hx)) (by simpa using hi) (by omega) (by omega)]
theorem seatI_lt : ∀ (xs : List RingD) (k : Int), k < sumCount xs → 0 ≤ k → seatI xs k < xs.length
  | [], k, h, h0 => by simp [sumCount] at h; omega
  | r :: rs, k, h, h0 => by
    rw [sumCount_cons] at h
    simp only [seatI]
    split
    · simp
    · have := seatI_lt rs (k - r.Count) (by omega) (by omega)
      simp; omega
theorem seatN_bd {xs : List RingD} (hc : ∀ x ∈ xs, 0 ≤ x.Count ∧ x.Count ≤ 1048576) : ∀ (k : Int) (h0 : 0 ≤ k) (h1 : k < sumCount xs), 0 ≤ seatN xs k ∧ ∃ h : seatI xs k < xs.length, seatN xs k < xs[seatI xs k].Count := by
  induction xs with
  | nil => intro k h0 h1; simp [sumCount] at h1; omega
  | cons r rs ih =>
    intro k h0 h1
    rw [sumCount_cons] at h1
    by_cases hk : k < r.Count
    · have e : seatI (r :: rs) k = 0 := by simp only [seatI]; rw [if_pos hk]
      have e2 : seatN (r :: rs) k = k := by simp only [seatN, e]; simp [sumCount]
      refine ⟨by omega, by simp [e], ?_⟩
      simp only [e, e2]; simpa using hk
    · have e : seatI (r :: rs) k = seatI rs (k - r.Count) + 1 := by simp only [seatI]; rw [if_neg hk]
      obtain ⟨g1, g2, g3⟩ := ih (fun x hx => hc x (List.mem_cons_of_mem _ hx)) (k - r.Count) (by omega) (by omega)
      have e2 : seatN (r :: rs) k = seatN rs (k - r.Count) := by
        simp only [seatN, e, List.take_succ_cons, sumCount_cons]; omega
      refine ⟨by rw [e2]; exact g1, by rw [e]; simp; exact g2, ?_⟩
      rw [e2]
      simp only [e, List.getElem_cons_succ]
      exact g3
def priceOf (xs : List RingD) (k : Int) : Int := match xs[seatI xs k]? with | some r => r.Price | none => 0
/-- the code for rings and booked seats -/
def bookedB (xs : List RingD) (ps : List Int) : Bool := ringsB xs && risesB ps 0 (sumCount xs - 1)
def incomeStep (xs : List RingD) (ps : List Int) (i : Nat) (s : Int) : Int := match ps[i]? with | some p => s + priceOf xs p | none => s
def incomeOf (xs : List RingD) (ps : List Int) : Int := if bookedB xs ps = true then upTo (incomeStep xs ps) 0 ps.length else 0
def bookedC (xs : List RingD) (ps : List Int) : Int := if bookedB xs ps = true then 0 else 1
theorem price_bd {xs : List RingD} (h : ∀ x ∈ xs, 0 ≤ x.Price ∧ x.Price ≤ 10000) (k : Int) : 0 ≤ priceOf xs k ∧ priceOf xs k ≤ 10000 := by
  unfold priceOf
  split
  · rename_i r hr; exact h r (List.mem_of_getElem? hr)
  · omega
theorem income_bd (xs : List RingD) (ps : List Int) (h : ∀ x ∈ xs, 0 ≤ x.Price ∧ x.Price ≤ 10000) : ∀ k : Nat, 0 ≤ upTo (incomeStep xs ps) 0 k ∧ upTo (incomeStep xs ps) 0 k ≤ k * 10000
  | 0 => by simp [upTo]
  | k + 1 => by
    have ih := income_bd xs ps h k
    rw [upTo_succ]
    have e : (((k + 1 : Nat)) : Int) * 10000 = k * 10000 + 10000 := by rw [Int.natCast_add, Int.add_mul]; omega
    rw [e]
    generalize upTo (incomeStep xs ps) 0 k = s at ih ⊢
    unfold incomeStep
    split
    · rename_i p hp
      have := price_bd h p
      omega
    · omega
theorem income_next {xs : List RingD} {ps : List Int} {k : Nat} (h : k < ps.length) : upTo (incomeStep xs ps) 0 (k + 1) = upTo (incomeStep xs ps) 0 k + priceOf xs ps[k] := by
  rw [upTo_succ]
  simp only [incomeStep, List.getElem?_eq_getElem h]

set_option maxHeartbeats 800000 in
theorem c_ringOf (A : Option Addr) (c : Nat) (xs : List RingD) (k : Int) (w : World) (hn : xs.length ≤ 1099511627776) (hc : ∀ x ∈ xs, 0 ≤ x.Count ∧ x.Count ≤ 1048576) (h0 : 0 ≤ k) (h1 : k < sumCount xs) (h2 : sumCount xs ≤ 1048576) (hA : Rd RingD.cells 5 w A xs) :
    Calls Tryz.prog 64 #[.slice A xs.length c, .int .i64 k] w fun e w' => e = .returned (.tuple #[.int .i64 ((seatI xs k : Nat) : Int), .int .i64 (seatN xs k)]) ∧ IsX w w' := by
  obtain ⟨n, hnn⟩ : ∃ n, n = xs.length := ⟨_, rfl⟩
  have HN := hide hnn
  rw [← hnn] at hn ⊢
  clear hnn
  have HC := hide hc
  clear hc
  go_enter Tryz.func64, Tryz.ntmps64
  go_wp2
  go_loopw [1, 10] (fun q i wr => ∃ (m : Nat) (t : Int), m ≤ n ∧ i = .int .i64 m ∧ q = .int .i64 t ∧ 0 ≤ t ∧ t ≤ k ∧ Hid (t = k - sumCount (xs.take m)) ∧ IsX w wr) (fun _ i _ => n - (intOf i).toNat)
  case atStart => exact ⟨0, k, Nat.zero_le _, rfl, rfl, h0, Int.le_refl _, by show _ = _; simp [sumCount], IsX.refl _⟩
  case round =>
    obtain ⟨m, t, hm, rfl, rfl, ht0, htk, HT, p, rfl⟩ := hrel
    have hlt : m < n := by
      rcases Nat.lt_or_ge m n with h | h
      · exact h
      · exfalso
        have e : xs.take m = xs := List.take_of_length_le (by have := HN.out; omega)
        have := HT.out
        rw [e] at this; omega
    have hltx : m < xs.length := HN.out ▸ hlt
    obtain ⟨b, off, rfl, hb, c0, c1, c2, c3, c4⟩ := RingD.rd hA (show xs[m]? = some xs[m] from List.getElem?_eq_getElem _)
    clear hA
    have hcm := HC.out _ (List.getElem_mem hltx)
    obtain ⟨y0, y1⟩ := hcm
    have HS := hide (sumCount_take xs m hltx)
    by_cases htc : t < xs[m].Count
    · have hsI : seatI xs k = m := seatI_at xs m k HC.out hltx (by have := HT.out; omega) (by have := HT.out; have := HS.out; omega)
      have HI := hide hsI
      have HNN := hide (show seatN xs k = t by rw [seatN, hsI]; exact HT.out.symm)
      clear hsI
      go_wp2
      go_ret2
      exact ⟨by rw [HI.out, HNN.out]; rfl, IsX.alloc ⟨p, rfl⟩ _⟩
    · have HT' := hide (show t - xs[m].Count = k - sumCount (xs.take (m + 1)) by have := HT.out; have := HS.out; omega)
      go_wp2
      go_roundw
      case rel => exact ⟨m + 1, t - xs[m].Count, by omega, by go_num, rfl, by omega, by omega, HT'.out, IsX.alloc ⟨p, rfl⟩ _⟩
      case measure => simp [intOf]; omega

set_option maxHeartbeats 800000 in
theorem c_l23Split (A : Option Addr) (c : Nat) (xs : List RingD) (k : Int) (w : World) (hn : xs.length ≤ 1099511627776) (hc : ∀ x ∈ xs, 0 ≤ x.Count ∧ x.Count ≤ 1048576) (h0 : 0 ≤ k) (h1 : k < sumCount xs) (h2 : sumCount xs ≤ 1048576) (hA : Rd RingD.cells 5 w A xs) :
    Calls Tryz.prog 84 #[.slice A xs.length c, .int .i64 k] w fun e w' => e = .returned (.tuple #[.int .i64 ((seatI xs k : Nat) : Int), .int .i64 (seatN xs k)]) ∧ IsX w w' := by
  obtain ⟨n, hnn⟩ : ∃ n, n = xs.length := ⟨_, rfl⟩
  have HN := hide hnn
  rw [← hnn] at hn ⊢
  clear hnn
  have HC := hide hc
  clear hc
  go_enter Tryz.func84, Tryz.ntmps84
  go_wp2
  go_loopw [1, 6] (fun q i wr => ∃ (m : Nat) (t : Int), m ≤ n ∧ i = .int .i64 m ∧ q = .int .i64 t ∧ 0 ≤ t ∧ t ≤ k ∧ Hid (t = k - sumCount (xs.take m)) ∧ IsX w wr) (fun _ i _ => n - (intOf i).toNat)
  case atStart => exact ⟨0, k, Nat.zero_le _, rfl, rfl, h0, Int.le_refl _, by show _ = _; simp [sumCount], IsX.refl _⟩
  case round =>
    obtain ⟨m, t, hm, rfl, rfl, ht0, htk, HT, p, rfl⟩ := hrel
    have hlt : m < n := by
      rcases Nat.lt_or_ge m n with h | h
      · exact h
      · exfalso
        have e : xs.take m = xs := List.take_of_length_le (by have := HN.out; omega)
        have := HT.out
        rw [e] at this; omega
    have hltx : m < xs.length := HN.out ▸ hlt
    obtain ⟨b, off, rfl, hb, c0, c1, c2, c3, c4⟩ := RingD.rd hA (show xs[m]? = some xs[m] from List.getElem?_eq_getElem _)
    clear hA
    have hcm := HC.out _ (List.getElem_mem hltx)
    obtain ⟨y0, y1⟩ := hcm
    have HS := hide (sumCount_take xs m hltx)
    by_cases htc : t < xs[m].Count
    · have hsI : seatI xs k = m := seatI_at xs m k HC.out hltx (by have := HT.out; omega) (by have := HT.out; have := HS.out; omega)
      have HI := hide hsI
      have HNN := hide (show seatN xs k = t by rw [seatN, hsI]; exact HT.out.symm)
      clear hsI
      go_wp2
      go_ret2
      exact ⟨by rw [HI.out, HNN.out]; rfl, ⟨p, rfl⟩⟩
    · have HT' := hide (show t - xs[m].Count = k - sumCount (xs.take (m + 1)) by have := HT.out; have := HS.out; omega)
      go_wp2
      go_roundw
      case rel => exact ⟨m + 1, t - xs[m].Count, by omega, by go_num, rfl, by omega, by omega, HT'.out, ⟨p, rfl⟩⟩
      case measure => simp [intOf]; omega

set_option maxHeartbeats 800000 in
theorem c_seatPrice (A : Option Addr) (c : Nat) (xs : List RingD) (k : Int) (w : World) (hn : xs.length ≤ 1099511627776) (hc : ∀ x ∈ xs, 0 ≤ x.Count ∧ x.Count ≤ 1048576) (h0 : 0 ≤ k) (h1 : k < sumCount xs) (h2 : sumCount xs ≤ 1048576) (hA : Rd RingD.cells 5 w A xs) :
    Calls Tryz.prog 46 #[.slice A xs.length c, .int .i64 k] w fun e w' => e = .returned (.int .i64 (priceOf xs k)) ∧ IsX w w' := by
  have hlt := seatI_lt xs k h1 h0
  obtain ⟨j, hj⟩ : ∃ j, j = seatI xs k := ⟨_, rfl⟩
  have HP := hide (show ∀ h : j < xs.length, priceOf xs k = xs[j].Price from fun h => by rw [priceOf, ← hj, List.getElem?_eq_getElem h])
  have hA' := hA
  rw [← hj] at hlt
  obtain ⟨b, off, hb1, hb, c0, c1, c2, c3, c4⟩ := RingD.rd hA' (show xs[j]? = some xs[j] from List.getElem?_eq_getElem _)
  have HJ := hide hj
  have HB := hide hb1
  clear hj hA' hb1
  go_enter Tryz.func46, Tryz.ntmps46
  go_wp2_with fail
  refine (c_ringOf A c xs k w hn hc h0 h1 h2 hA).mono ?_
  rintro e w1 ⟨rfl, p, rfl⟩
  rw [← HJ.out]
  clear hA
  have hb1 := HB.out
  subst hb1
  go_wp2
  go_ret
  exact ⟨by rw [HP.out hlt]; rfl, ⟨p, rfl⟩⟩

set_option maxHeartbeats 800000 in
theorem c_l23Price (A : Option Addr) (c : Nat) (xs : List RingD) (k : Int) (w : World) (hn : xs.length ≤ 1099511627776) (hc : ∀ x ∈ xs, 0 ≤ x.Count ∧ x.Count ≤ 1048576) (h0 : 0 ≤ k) (h1 : k < sumCount xs) (h2 : sumCount xs ≤ 1048576) (hA : Rd RingD.cells 5 w A xs) :
    Calls Tryz.prog 55 #[.slice A xs.length c, .int .i64 k] w fun e w' => e = .returned (.int .i64 (priceOf xs k)) ∧ IsX w w' := by
  have hlt := seatI_lt xs k h1 h0
  obtain ⟨j, hj⟩ : ∃ j, j = seatI xs k := ⟨_, rfl⟩
  have HP := hide (show ∀ h : j < xs.length, priceOf xs k = xs[j].Price from fun h => by rw [priceOf, ← hj, List.getElem?_eq_getElem h])
  have hA' := hA
  rw [← hj] at hlt
  obtain ⟨b, off, hb1, hb, c0, c1, c2, c3, c4⟩ := RingD.rd hA' (show xs[j]? = some xs[j] from List.getElem?_eq_getElem _)
  have HJ := hide hj
  have HB := hide hb1
  clear hj hA' hb1
  go_enter Tryz.func55, Tryz.ntmps55
  go_wp2_with fail
  refine (c_l23Split A c xs k w hn hc h0 h1 h2 hA).mono ?_
  rintro e w1 ⟨rfl, p, rfl⟩
  rw [← HJ.out]
  clear hA
  have hb1 := HB.out
  subst hb1
  go_wp2
  go_ret
  exact ⟨by rw [HP.out hlt]; rfl, ⟨p, rfl⟩⟩

set_option maxHeartbeats 1600000 in
theorem c_l23Booked (A0 : Option Addr) (c0 : Nat) (xs0 : List RingD) (A1 : Option Addr) (c1 : Nat) (xs1 : List Int) (w : World) (hn0 : xs0.length ≤ 1099511627776) (hw0 : ∀ x ∈ xs0, x.wf) (hA0 : Rd RingD.cells 5 w A0 xs0) (hn1 : xs1.length ≤ 1099511627776) (hw1 : ∀ x ∈ xs1, intWf x) (hA1 : Rd intC 1 w A1 xs1) :
    Calls Tryz.prog 54 #[.slice A0 xs0.length c0, .slice A1 xs1.length c1] w fun e w' => e = .returned (.int .i64 (bookedC xs0 xs1)) ∧ IsX w w' := by
  cases hv : ringsB xs0
  · have HR := hide (show bookedC xs0 xs1 = 1 by simp [bookedC, bookedB, hv])
    go_enter Tryz.func54, Tryz.ntmps54
    go_wp2_with fail
    refine (cb (c_l23Ok A0 c0 xs0 w hn0 hw0 hA0) hv).mono ?_
    rintro e w1 ⟨rfl, hx⟩
    go_wp2_with fail
    go_ret
    exact ⟨by rw [HR.out]; rfl, hx⟩
  have HV := hide hv
  have hs0 := sumCount_nn hv
  have hs1 := (rings_len hv).2
  cases hr : risesB xs1 0 (sumCount xs0 - 1)
  · have HR := hide (show bookedC xs0 xs1 = 1 by simp [bookedC, bookedB, hr])
    go_enter Tryz.func54, Tryz.ntmps54
    go_wp2_with fail
    refine (cb (c_l23Ok A0 c0 xs0 w hn0 hw0 hA0) hv).mono ?_
    rintro e w1 ⟨rfl, hx⟩
    go_wp2_with fail
    refine (c_l23All A0 c0 xs0 w1 hn0 (rings_cnt HV.out) (hA0.x hx)).mono ?_
    rintro e w2 ⟨rfl, hx2⟩
    go_wp2_with fail
    refine (cb (c_rises A1 c1 xs1 0 (sumCount xs0 - 1) w2 hn1 (hA1.x (hx.trans hx2))) hr).mono ?_
    rintro e w3 ⟨rfl, hx3⟩
    go_wp2_with fail
    go_ret
    exact ⟨by rw [HR.out]; rfl, (hx.trans hx2).trans hx3⟩
  have HR := hide (show bookedC xs0 xs1 = 0 by simp [bookedC, bookedB, hv, hr])
  go_enter Tryz.func54, Tryz.ntmps54
  go_wp2_with fail
  refine (cb (c_l23Ok A0 c0 xs0 w hn0 hw0 hA0) hv).mono ?_
  rintro e w1 ⟨rfl, hx⟩
  go_wp2_with fail
  refine (c_l23All A0 c0 xs0 w1 hn0 (rings_cnt HV.out) (hA0.x hx)).mono ?_
  rintro e w2 ⟨rfl, hx2⟩
  go_wp2_with fail
  refine (cb (c_rises A1 c1 xs1 0 (sumCount xs0 - 1) w2 hn1 (hA1.x (hx.trans hx2))) hr).mono ?_
  rintro e w3 ⟨rfl, hx3⟩
  go_wp2_with fail
  go_ret
  exact ⟨by rw [HR.out]; rfl, (hx.trans hx2).trans hx3⟩

set_option maxHeartbeats 1600000 in
theorem s_IncomeOf (A0 : Option Addr) (c0 : Nat) (xs0 : List RingD) (A1 : Option Addr) (c1 : Nat) (xs1 : List Int) (w : World) (hn0 : xs0.length ≤ 1099511627776) (hw0 : ∀ x ∈ xs0, x.wf) (hA0 : Rd RingD.cells 5 w A0 xs0) (hn1 : xs1.length ≤ 1099511627776) (hw1 : ∀ x ∈ xs1, intWf x) (hA1 : Rd intC 1 w A1 xs1) :
    Calls Tryz.prog 24 #[.slice A0 xs0.length c0, .slice A1 xs1.length c1] w fun e w' => e = .returned (.tuple #[.int .i64 (incomeOf xs0 xs1), .int .i64 (bookedC xs0 xs1)]) ∧ IsX w w' := by
  cases hbk : bookedB xs0 xs1
  · have HW := hide (show incomeOf xs0 xs1 = 0 by simp [incomeOf, hbk])
    have HR := hide (show bookedC xs0 xs1 = 1 by simp [bookedC, hbk])
    go_enter Tryz.func24, Tryz.ntmps24
    go_wp2_with fail
    refine (c_l23Booked A0 c0 xs0 A1 c1 xs1 w hn0 hw0 hA0 hn1 hw1 hA1).mono ?_
    rintro e w1 ⟨rfl, hx⟩
    rw [HR.out]
    go_wp2_with fail
    go_ret2
    exact ⟨by rw [HW.out, HR.out]; rfl, hx⟩
  have hbk' := hbk
  simp only [bookedB, Bool.and_eq_true] at hbk'
  obtain ⟨hv, hr⟩ := hbk'
  clear hbk
  have hs0 := sumCount_nn hv
  have HW := hide (show incomeOf xs0 xs1 = upTo (incomeStep xs0 xs1) 0 xs1.length by simp [incomeOf, bookedB, hv, hr])
  have HR := hide (show bookedC xs0 xs1 = 0 by simp [bookedC, bookedB, hv, hr])
  go_enter Tryz.func24, Tryz.ntmps24
  go_wp2_with fail
  refine (c_l23Booked A0 c0 xs0 A1 c1 xs1 w hn0 hw0 hA0 hn1 hw1 hA1).mono ?_
  rintro e w1 ⟨rfl, hx⟩
  rw [HR.out]
  have HX := hide (hx)
  have hlen := rings_len hv
  have HM := hide (rises_mem hr)
  have HO := hide (rings_ok hv)
  have HCn := hide (rings_cnt hv)
  have hA0' := hA0.x HX.out
  have hA1' := hA1.x HX.out
  clear hA0 hA1 hw0 hw1
  obtain ⟨n, hnn⟩ : ∃ n, n = xs1.length := ⟨_, rfl⟩
  have HN := hide hnn
  rw [← hnn] at hn1 ⊢
  clear hnn
  go_wp2
  clear hv hr
  go_loopw [7, 8] (fun s i wr => ∃ k : Nat, k ≤ n ∧ i = .int .i64 k ∧ s = .int .i64 (upTo (incomeStep xs0 xs1) 0 k) ∧ IsX w1 wr) (fun _ i _ => n - (intOf i).toNat)
  case atStart => exact ⟨0, Nat.zero_le _, rfl, rfl, IsX.refl _⟩
  case round =>
    obtain ⟨k, hk, rfl, rfl, p, rfl⟩ := hrel
    by_cases hlt : k < n
    · have hltp : k < xs1.length := HN.out ▸ hlt
      obtain ⟨b', off', rfl, hb', d0⟩ := int_rd hA1' (show xs1[k]? = some xs1[k] from List.getElem?_eq_getElem _)
      clear hA1'
      obtain ⟨m0, m1⟩ := HM.out _ (List.getElem_mem hltp)
      have HS := hide (income_next (xs := xs0) hltp)
      obtain ⟨z0, z1⟩ := income_bd xs0 xs1 (fun x hx => ⟨(HO.out x hx).2.2.2.2.2.2.2.2.1, (HO.out x hx).2.2.2.2.2.2.2.2.2.1⟩) k
      obtain ⟨y0, y1⟩ := price_bd (fun x hx => ⟨(HO.out x hx).2.2.2.2.2.2.2.2.1, (HO.out x hx).2.2.2.2.2.2.2.2.2.1⟩) xs1[k]
      go_wp2_with (go_at_call 55; refine (c_l23Price A0 c0 xs0 xs1[k] _ hn0 HCn.out m0 (by omega) (by omega) (hA0'.x ⟨p, rfl⟩)).mono ?_; rintro e w9 ⟨rfl, q, rfl⟩)
      go_roundw
      case rel => exact ⟨k + 1, by omega, by go_num, by rw [HS.out], IsX.xt ⟨p, rfl⟩ q⟩
      case measure => simp [intOf]; omega
    · obtain rfl : k = n := by omega
      go_wp2
      go_ret2
      exact ⟨by rw [HW.out, HR.out, ← HN.out]; rfl, IsX.trans HX.out ⟨p, rfl⟩⟩

set_option maxHeartbeats 1600000 in
theorem i_IncomeOf (A0 : Option Addr) (c0 : Nat) (xs0 : List RingD) (A1 : Option Addr) (c1 : Nat) (xs1 : List Int) (w : World) (hn0 : xs0.length ≤ 1099511627776) (hw0 : ∀ x ∈ xs0, x.wf) (hA0 : Rd RingD.cells 5 w A0 xs0) (hn1 : xs1.length ≤ 1099511627776) (hw1 : ∀ x ∈ xs1, intWf x) (hA1 : Rd intC 1 w A1 xs1) :
    Calls Tryz.prog 20 #[.slice A0 xs0.length c0, .slice A1 xs1.length c1] w fun e w' => e = .returned (.tuple #[.int .i64 (incomeOf xs0 xs1), .int .i64 (bookedC xs0 xs1)]) ∧ IsX w w' := by
  cases hv : ringsB xs0
  · have HR := hide (show bookedC xs0 xs1 = 1 by simp [bookedC, bookedB, hv])
    have HW := hide (show incomeOf xs0 xs1 = 0 by simp [incomeOf, bookedB, hv])
    go_enter Tryz.func20, Tryz.ntmps20
    go_wp2_with fail
    refine (cb (c_ValidRings A0 c0 xs0 w hn0 hw0 hA0) hv).mono ?_
    rintro e w1 ⟨rfl, hx⟩
    go_wp2_with fail
    go_ret2
    exact ⟨by rw [HW.out, HR.out]; rfl, hx⟩
  have HV := hide hv
  have hs1 := (rings_len hv).2
  cases hr : risesB xs1 0 (sumCount xs0 - 1)
  · have HR := hide (show bookedC xs0 xs1 = 1 by simp [bookedC, bookedB, hr])
    have HW := hide (show incomeOf xs0 xs1 = 0 by simp [incomeOf, bookedB, hr])
    have hs0 := sumCount_nn hv
    go_enter Tryz.func20, Tryz.ntmps20
    go_wp2_with fail
    refine (cb (c_ValidRings A0 c0 xs0 w hn0 hw0 hA0) hv).mono ?_
    rintro e w1 ⟨rfl, hx⟩
    go_wp2_with fail
    refine (c_seatCount A0 c0 xs0 w1 hn0 (rings_cnt HV.out) (hA0.x hx)).mono ?_
    rintro e w2 ⟨rfl, hx2⟩
    go_wp2_with fail
    refine (cb (c_areIndices A1 c1 xs1 (sumCount xs0) w2 hn1 hs0 (by omega) (hA1.x (hx.trans hx2))) hr).mono ?_
    rintro e w3 ⟨rfl, hx3⟩
    go_wp2_with fail
    go_ret2
    exact ⟨by rw [HW.out, HR.out]; rfl, (hx.trans hx2).trans hx3⟩
  have hs0 := sumCount_nn hv
  have HW := hide (show incomeOf xs0 xs1 = upTo (incomeStep xs0 xs1) 0 xs1.length by simp [incomeOf, bookedB, hv, hr])
  have HR := hide (show bookedC xs0 xs1 = 0 by simp [bookedC, bookedB, hv, hr])
  go_enter Tryz.func20, Tryz.ntmps20
  go_wp2_with fail
  refine (cb (c_ValidRings A0 c0 xs0 w hn0 hw0 hA0) hv).mono ?_
  rintro e w1 ⟨rfl, hx⟩
  go_wp2_with fail
  refine (c_seatCount A0 c0 xs0 w1 hn0 (rings_cnt HV.out) (hA0.x hx)).mono ?_
  rintro e w2 ⟨rfl, hx2⟩
  go_wp2_with fail
  refine (cb (c_areIndices A1 c1 xs1 (sumCount xs0) w2 hn1 hs0 (by omega) (hA1.x (hx.trans hx2))) hr).mono ?_
  rintro e w3 ⟨rfl, hx3⟩
  have HX := hide ((hx.trans hx2).trans hx3)
  have hlen := rings_len hv
  have HM := hide (rises_mem hr)
  have HO := hide (rings_ok hv)
  have HCn := hide (rings_cnt hv)
  have hA0' := hA0.x HX.out
  have hA1' := hA1.x HX.out
  clear hA0 hA1 hw0 hw1
  obtain ⟨n, hnn⟩ : ∃ n, n = xs1.length := ⟨_, rfl⟩
  have HN := hide hnn
  rw [← hnn] at hn1 ⊢
  clear hnn
  go_wp2
  clear hv hr
  go_loopw [6, 21] (fun s i wr => ∃ k : Nat, k ≤ n ∧ i = .int .i64 k ∧ s = .int .i64 (upTo (incomeStep xs0 xs1) 0 k) ∧ IsX w3 wr) (fun _ i _ => n - (intOf i).toNat)
  case atStart => exact ⟨0, Nat.zero_le _, rfl, rfl, IsX.refl _⟩
  case round =>
    obtain ⟨k, hk, rfl, rfl, p, rfl⟩ := hrel
    by_cases hlt : k < n
    · have hltp : k < xs1.length := HN.out ▸ hlt
      obtain ⟨b', off', rfl, hb', d0⟩ := int_rd hA1' (show xs1[k]? = some xs1[k] from List.getElem?_eq_getElem _)
      clear hA1'
      obtain ⟨m0, m1⟩ := HM.out _ (List.getElem_mem hltp)
      have HS := hide (income_next (xs := xs0) hltp)
      obtain ⟨z0, z1⟩ := income_bd xs0 xs1 (fun x hx => ⟨(HO.out x hx).2.2.2.2.2.2.2.2.1, (HO.out x hx).2.2.2.2.2.2.2.2.2.1⟩) k
      obtain ⟨y0, y1⟩ := price_bd (fun x hx => ⟨(HO.out x hx).2.2.2.2.2.2.2.2.1, (HO.out x hx).2.2.2.2.2.2.2.2.2.1⟩) xs1[k]
      go_wp2_with (go_at_call 46; refine (c_seatPrice A0 c0 xs0 xs1[k] _ hn0 HCn.out m0 (by omega) (by omega) (hA0'.x ⟨p, rfl⟩)).mono ?_; rintro e w9 ⟨rfl, q, rfl⟩)
      go_roundw
      case rel => exact ⟨k + 1, by omega, by go_num, by rw [HS.out], IsX.xt ⟨p, rfl⟩ q⟩
      case measure => simp [intOf]; omega
    · obtain rfl : k = n := by omega
      go_wp2
      go_ret2
      exact ⟨by rw [HW.out, HR.out, ← HN.out]; rfl, IsX.trans HX.out ⟨p, rfl⟩⟩

end Go.Proofs.YtfcfgkkkepifhaaGreatDoor
