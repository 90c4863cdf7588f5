/- Meeting days: MeetingDay and FullestDay of the reference and of the program. Conditions: lists no longer than 2^40. -/
import Derived.Test.YtfkhhioadklomaaNeedFns
namespace Go.Proofs.Ytfkhhioadklomaa
set_option linter.unusedVariables false
open Go.RowKit Go.Sort

def okP (ps : List PersonD) (ns : List ByteArray) : Bool := peopleB ps && needB ps ns
def cntD (ps : List PersonD) (ns : List ByteArray) (d : Int) : Nat := cntTo ps ns d ns.length
def meetF (ps : List PersonD) (ns : List ByteArray) (fr : Int) : Option Int := (allF ps fr 99999).find? (fun d => decide (cntD ps ns d = ns.length))
def meetC (ps : List PersonD) (ns : List ByteArray) (fr : Int) : Int := if okP ps ns = true then (if inB fr 0 99999 = true then (match meetF ps ns fr with | some _ => 0 | none => 3) else 2) else 1
def meetZ (ps : List PersonD) (ns : List ByteArray) (fr : Int) : Int := if okP ps ns = true then (if inB fr 0 99999 = true then (match meetF ps ns fr with | some d => d | none => 0) else 0) else 0
section
variable {ps : List PersonD} {ns : List ByteArray} {fr un : Int}
theorem meet_bad (h : okP ps ns = false) : meetZ ps ns fr = 0 ∧ meetC ps ns fr = 1 := by simp [meetZ, meetC, h]
theorem meet_range (h : okP ps ns = true) (h2 : inB fr 0 99999 = false) : meetZ ps ns fr = 0 ∧ meetC ps ns fr = 2 := by simp [meetZ, meetC, h, h2]
theorem meet_some {d : Int} (h : okP ps ns = true) (h2 : inB fr 0 99999 = true) (h3 : meetF ps ns fr = some d) : meetZ ps ns fr = d ∧ meetC ps ns fr = 0 := by simp [meetZ, meetC, h, h2, h3]
theorem meet_none (h : okP ps ns = true) (h2 : inB fr 0 99999 = true) (h3 : meetF ps ns fr = none) : meetZ ps ns fr = 0 ∧ meetC ps ns fr = 3 := by simp [meetZ, meetC, h, h2, h3]
theorem find_at {p : Int → Bool} {F : List Int} {q : Nat} (h : q < F.length) (hb : ∀ i (h : i < F.length), i < q → p F[i] = false) (hq : p F[q] = true) : F.find? p = some F[q] := by
  rw [List.find?_eq_some_iff_getElem]
  exact ⟨hq, q, h, rfl, fun j hj => by simp [hb j (by omega) hj]⟩
theorem find_no {p : Int → Bool} {F : List Int} (hb : ∀ i (h : i < F.length), p F[i] = false) : F.find? p = none := by
  rw [List.find?_eq_none]
  intro x hx
  obtain ⟨i, hi, rfl⟩ := List.getElem_of_mem hx
  simp [hb i hi]
theorem allF_len (hp : peopleB ps = true) : (allF ps fr un).length ≤ 384 := by
  have h1 := days_len hp fr un ps.length (Nat.le_refl _)
  have h2 := fold_len (daysTo ps fr un ps.length) []
  have h3 := (people_bd hp).1
  simp only [List.length_nil] at h2
  unfold allF
  omega
theorem need_len (h : needB ps ns = true) : ns.length ≤ 12 := by simp only [needB, Bool.and_eq_true, decide_eq_true_eq] at h; exact h.1
end
/-- the best day and how many come, among the first k days -/
def fullStep (ps : List PersonD) (ns : List ByteArray) (s : Int × Nat) (d : Int) : Int × Nat := if s.2 < cntD ps ns d then (d, cntD ps ns d) else s
def fullTo (ps : List PersonD) (ns : List ByteArray) (F : List Int) (k : Nat) : Int × Nat := (F.take k).foldl (fullStep ps ns) (0, 0)
theorem full_succ {ps : List PersonD} {ns : List ByteArray} {F : List Int} {k : Nat} (h : k < F.length) : fullTo ps ns F (k + 1) = fullStep ps ns (fullTo ps ns F k) F[k] := by
  unfold fullTo; rw [List.take_succ_eq_append_getElem h, List.foldl_append]; rfl
theorem full_yes {ps : List PersonD} {ns : List ByteArray} {F : List Int} {k m : Nat} {b : Int} (h : k < F.length) (hs : fullTo ps ns F k = (b, m)) (hc : m < cntD ps ns F[k]) : fullTo ps ns F (k + 1) = (F[k], cntD ps ns F[k]) := by
  rw [full_succ h, hs]; simp only [fullStep, if_pos hc]
theorem full_no {ps : List PersonD} {ns : List ByteArray} {F : List Int} {k m : Nat} {b : Int} (h : k < F.length) (hs : fullTo ps ns F k = (b, m)) (hc : ¬ m < cntD ps ns F[k]) : fullTo ps ns F (k + 1) = (b, m) := by
  rw [full_succ h, hs]; simp only [fullStep, if_neg hc]
def fullE (ps : List PersonD) (ns : List ByteArray) (fr un : Int) : Int × Nat := fullTo ps ns (allF ps fr un) (allF ps fr un).length
def rangeB (fr un : Int) : Bool := inB fr 0 99999 && inB un fr 99999
def fullC (ps : List PersonD) (ns : List ByteArray) (fr un : Int) : Int := if okP ps ns = true then (if rangeB fr un = true then (if (fullE ps ns fr un).2 = 0 then 3 else 0) else 2) else 1
def fullD (ps : List PersonD) (ns : List ByteArray) (fr un : Int) : Int := if fullC ps ns fr un = 0 then (fullE ps ns fr un).1 else 0
def fullM (ps : List PersonD) (ns : List ByteArray) (fr un : Int) : Int := if fullC ps ns fr un = 0 then (((fullE ps ns fr un).2 : Nat) : Int) else 0
section
variable {ps : List PersonD} {ns : List ByteArray} {fr un : Int}
theorem full_bad (h : okP ps ns = false) : fullD ps ns fr un = 0 ∧ fullM ps ns fr un = 0 ∧ fullC ps ns fr un = 1 := by simp [fullD, fullM, fullC, h]
theorem full_range (h : okP ps ns = true) (h2 : rangeB fr un = false) : fullD ps ns fr un = 0 ∧ fullM ps ns fr un = 0 ∧ fullC ps ns fr un = 2 := by simp [fullD, fullM, fullC, h, h2]
theorem full_none {b : Int} (h : okP ps ns = true) (h2 : rangeB fr un = true) (h3 : fullE ps ns fr un = (b, 0)) : fullD ps ns fr un = 0 ∧ fullM ps ns fr un = 0 ∧ fullC ps ns fr un = 3 := by simp [fullD, fullM, fullC, h, h2, h3]
theorem full_some {b : Int} {m : Nat} (h : okP ps ns = true) (h2 : rangeB fr un = true) (h3 : fullE ps ns fr un = (b, m)) (hm : m ≠ 0) : fullD ps ns fr un = b ∧ fullM ps ns fr un = m ∧ fullC ps ns fr un = 0 := by simp [fullD, fullM, fullC, h, h2, h3, hm]
end

theorem c_l03DayM (d : Int) (w : World) : Calls Try.prog 34 #[.int .i64 d] w fun e w' => e = .returned (.bool (inB d 0 99999)) ∧ w = w' := by
  go_enter Try.func34, Try.ntmps34
  go_wp2_with fail
  refine (c_in d 0 99999 w).mono ?_
  rintro e w1 ⟨rfl, rfl⟩
  go_wp2_with fail
  go_ret
  exact ⟨rfl, rfl⟩

set_option maxRecDepth 100000 in
set_option maxHeartbeats 3200000 in
theorem i_MeetingDay (A0 : Option Addr) (c0 : Nat) (xs0 : List PersonD) (A1 : Option Addr) (c1 : Nat) (xs1 : List ByteArray) (n2 : Int) (w : World) (hn0 : xs0.length ≤ 1099511627776) (hw0 : ∀ x ∈ xs0, x.wf) (hs0 : ∀ x ∈ xs0, x.small 1099511627776) (hA0 : RdPerson 0 w A0 xs0) (hn1 : xs1.length ≤ 1099511627776) (hw1 : ∀ x ∈ xs1, strWf x) (hA1 : Rd strC 1 w A1 xs1) (hb2 : intWf n2) : Calls Try.prog 27 #[.slice A0 xs0.length c0, .slice A1 xs1.length c1, .int .i64 n2] w fun e w' => e = .returned (.tuple #[.int .i64 (meetZ xs0 xs1 n2), .int .i64 (meetC xs0 xs1 n2)]) ∧ IsX w w' := by
  cases hv : peopleB xs0
  · have HB := hide (meet_bad (fr := n2) (show okP xs0 xs1 = false by simp [okP, hv]))
    go_enter Try.func27, Try.ntmps27
    go_wp2_with fail
    refine (cb (c_ValidPeople A0 c0 xs0 w hn0 hw0 hs0 hA0) hv).mono ?_
    rintro e w1 ⟨rfl, hx⟩
    go_wp2_with fail
    go_ret2
    exact ⟨by rw [HB.out.1, HB.out.2]; rfl, hx⟩
  cases hne : needB xs0 xs1
  · have HB := hide (meet_bad (fr := n2) (show okP xs0 xs1 = false by simp [okP, hne]))
    go_enter Try.func27, Try.ntmps27
    go_wp2_with fail
    refine (cb (c_ValidPeople A0 c0 xs0 w hn0 hw0 hs0 hA0) hv).mono ?_
    rintro e w1 ⟨rfl, hx⟩
    go_wp2_with fail
    refine (cb (c_areNeeded A0 c0 xs0 A1 c1 xs1 w1 hv hn1 (hA0.x hx) (hA1.x hx)) hne).mono ?_
    rintro e w2 ⟨rfl, hx2⟩
    replace hx := hx.trans hx2
    clear hx2
    go_wp2_with fail
    go_ret2
    exact ⟨by rw [HB.out.1, HB.out.2]; rfl, hx⟩
  have hok : okP xs0 xs1 = true := by simp [okP, hv, hne]
  cases hi : inB n2 0 99999
  · have HB := hide (meet_range hok hi)
    go_enter Try.func27, Try.ntmps27
    go_wp2_with fail
    refine (cb (c_ValidPeople A0 c0 xs0 w hn0 hw0 hs0 hA0) hv).mono ?_
    rintro e w1 ⟨rfl, hx⟩
    go_wp2_with fail
    refine (cb (c_areNeeded A0 c0 xs0 A1 c1 xs1 w1 hv hn1 (hA0.x hx) (hA1.x hx)) hne).mono ?_
    rintro e w2 ⟨rfl, hx2⟩
    replace hx := hx.trans hx2
    clear hx2
    go_wp2_with fail
    refine (cb (c_within n2 0 99999 _) hi).mono ?_
    rintro e wu ⟨rfl, rfl⟩
    go_wp2_with fail
    go_ret2
    exact ⟨by rw [HB.out.1, HB.out.2]; rfl, hx⟩
  go_enter Try.func27, Try.ntmps27
  go_wp2_with fail
  refine (cb (c_ValidPeople A0 c0 xs0 w hn0 hw0 hs0 hA0) hv).mono ?_
  rintro e w1 ⟨rfl, hx⟩
  go_wp2_with fail
  refine (cb (c_areNeeded A0 c0 xs0 A1 c1 xs1 w1 hv hn1 (hA0.x hx) (hA1.x hx)) hne).mono ?_
  rintro e w2 ⟨rfl, hx2⟩
  replace hx := hx.trans hx2
  clear hx2
  go_wp2_with fail
  refine (cb (c_within n2 0 99999 _) hi).mono ?_
  rintro e wu ⟨rfl, rfl⟩
  have hnl := need_len hne
  have HCS := hide (fun d => count_same d hv hne)
  have hfl := allF_len (fr := n2) (un := 99999) hv
  have HP := hide hv
  go_wp2_with fail
  refine (c_freeDays A0 c0 xs0 n2 99999 w2 hv (hA0.x hx)).mono ?_
  rintro e W7 ⟨A7, c7, rfl, hO7, hx7⟩
  have HX := hide (hx.trans hx7)
  obtain ⟨F, hF⟩ : ∃ F, F = allF xs0 n2 99999 := ⟨_, rfl⟩
  have HF := hide hF
  rw [← hF] at hO7 hfl ⊢
  have HRD := hide (Own.rd (by omega) intC_len hO7 rfl)
  obtain ⟨m, hm⟩ : ∃ m, m = F.length := ⟨_, rfl⟩
  have HM := hide hm
  have HOK := hide hok
  have HIN := hide hi
  have HA0 := hide hA0
  have HA1 := hide hA1
  rw [← hm] at hfl ⊢
  clear hF hO7 hm hx hx7 hv hne hok hi hw0 hs0 hw1 hA0 hA1
  go_wp2_with fail
  go_loopw [26] (fun iv wr => ∃ q : Nat, q ≤ m ∧ iv = .int .i64 q ∧ Hid (∀ i (h : i < F.length), i < q → decide (cntD xs0 xs1 F[i] = xs1.length) = false) ∧ IsX W7 wr) (fun iv _ => m - (intOf iv).toNat)
  case atStart => exact ⟨0, Nat.zero_le _, rfl, hide (fun i h hi => absurd hi (by omega)), IsX.refl _⟩
  case round =>
    obtain ⟨q, hq, rfl, HB, p, rfl⟩ := hrel
    by_cases hlt : q < m
    · skip
      have hqx : q < F.length := HM.out ▸ hlt
      obtain ⟨b1, off1, e1, hb1, cd⟩ := int_rd HRD.out (show F[q]? = some F[q] from List.getElem?_eq_getElem _)
      obtain ⟨d, hd⟩ : ∃ d, d = F[q] := ⟨_, rfl⟩
      have HDD := hide hd
      rw [← hd] at cd
      subst e1
      obtain ⟨cv, hcv⟩ : ∃ cv, cv = cntTo xs0 xs1 d xs1.length := ⟨_, rfl⟩
      have HCV := hide hcv
      have hcl := cnt_le xs0 xs1 d xs1.length
      rw [← hcv] at hcl
      clear hd hcv
      by_cases hc : cv = xs1.length
      · have hce : ((cv : Int) == ((xs1.length : Nat) : Int)) = true := by simp [hc]
        have HFS := hide (meet_some HOK.out HIN.out (show meetF xs0 xs1 n2 = some d by
          rw [meetF, ← HF.out, HDD.out]
          exact find_at hqx HB.out (decide_eq_true (by rw [cntD, ← HDD.out, ← HCV.out]; exact hc))))
        clear hc
        go_wp2_with fail
        refine (c_freeOn A0 c0 xs0 A1 c1 xs1 d (xt W7 p) HP.out hnl (HA0.out.x (HX.out.trans ⟨p, rfl⟩)) (HA1.out.x (HX.out.trans ⟨p, rfl⟩))).mono ?_
        rintro e w5 ⟨rfl, hx5⟩
        rw [← HCS.out d]
        rw [← HCV.out]
        obtain ⟨p5, rfl⟩ := IsX.trans ⟨p, rfl⟩ hx5
        clear hx5
        go_wp2_with fail
        go_ret2
        exact ⟨by rw [HFS.out.1, HFS.out.2]; rfl, HX.out.trans ⟨p5, rfl⟩⟩
      · have hce : ((cv : Int) == ((xs1.length : Nat) : Int)) = false := by simp; omega
        have HB' := hide (step_all (p := fun d => decide (cntD xs0 xs1 d = xs1.length)) hqx HB.out (decide_eq_false (by rw [cntD, ← HDD.out, ← HCV.out]; exact hc)))
        clear hc
        go_wp2_with fail
        refine (c_freeOn A0 c0 xs0 A1 c1 xs1 d (xt W7 p) HP.out hnl (HA0.out.x (HX.out.trans ⟨p, rfl⟩)) (HA1.out.x (HX.out.trans ⟨p, rfl⟩))).mono ?_
        rintro e w5 ⟨rfl, hx5⟩
        rw [← HCS.out d]
        rw [← HCV.out]
        obtain ⟨p5, rfl⟩ := IsX.trans ⟨p, rfl⟩ hx5
        clear hx5
        go_wp2_with fail
        go_roundw
        case rel => exact ⟨q + 1, by omega, by go_num, HB', ⟨p5, rfl⟩⟩
        case measure => simp [intOf]; omega
    · obtain rfl : q = m := by omega
      have HFS := hide (meet_none HOK.out HIN.out (show meetF xs0 xs1 n2 = none by
        rw [meetF, ← HF.out]
        exact find_no (fun i h => HB.out i h (by rw [HM.out]; exact h))))
      go_wp2_with fail
      go_ret2
      exact ⟨by rw [HFS.out.1, HFS.out.2]; rfl, HX.out.trans ⟨p, rfl⟩⟩

set_option maxRecDepth 100000 in
set_option maxHeartbeats 3200000 in
theorem i_FullestDay (A0 : Option Addr) (c0 : Nat) (xs0 : List PersonD) (A1 : Option Addr) (c1 : Nat) (xs1 : List ByteArray) (n2 : Int) (n3 : Int) (w : World) (hn0 : xs0.length ≤ 1099511627776) (hw0 : ∀ x ∈ xs0, x.wf) (hs0 : ∀ x ∈ xs0, x.small 1099511627776) (hA0 : RdPerson 0 w A0 xs0) (hn1 : xs1.length ≤ 1099511627776) (hw1 : ∀ x ∈ xs1, strWf x) (hA1 : Rd strC 1 w A1 xs1) (hb2 : intWf n2) (hb3 : intWf n3) : Calls Try.prog 28 #[.slice A0 xs0.length c0, .slice A1 xs1.length c1, .int .i64 n2, .int .i64 n3] w fun e w' => e = .returned (.tuple #[.int .i64 (fullD xs0 xs1 n2 n3), .int .i64 (fullM xs0 xs1 n2 n3), .int .i64 (fullC xs0 xs1 n2 n3)]) ∧ IsX w w' := by
  cases hv : peopleB xs0
  · have HB := hide (full_bad (fr := n2) (un := n3) (show okP xs0 xs1 = false by simp [okP, hv]))
    go_enter Try.func28, Try.ntmps28
    go_wp2_with fail
    refine (cb (c_ValidPeople A0 c0 xs0 w hn0 hw0 hs0 hA0) hv).mono ?_
    rintro e w1 ⟨rfl, hx⟩
    go_wp2_with fail
    go_ret3
    exact ⟨by rw [HB.out.1, HB.out.2.1, HB.out.2.2]; rfl, hx⟩
  cases hne : needB xs0 xs1
  · have HB := hide (full_bad (fr := n2) (un := n3) (show okP xs0 xs1 = false by simp [okP, hne]))
    go_enter Try.func28, Try.ntmps28
    go_wp2_with fail
    refine (cb (c_ValidPeople A0 c0 xs0 w hn0 hw0 hs0 hA0) hv).mono ?_
    rintro e w1 ⟨rfl, hx⟩
    go_wp2_with fail
    refine (cb (c_areNeeded A0 c0 xs0 A1 c1 xs1 w1 hv hn1 (hA0.x hx) (hA1.x hx)) hne).mono ?_
    rintro e w2 ⟨rfl, hx2⟩
    replace hx := hx.trans hx2
    clear hx2
    go_wp2_with fail
    go_ret3
    exact ⟨by rw [HB.out.1, HB.out.2.1, HB.out.2.2]; rfl, hx⟩
  have hok : okP xs0 xs1 = true := by simp [okP, hv, hne]
  cases hi : inB n2 0 99999
  · have HB := hide (full_range hok (show rangeB n2 n3 = false by simp [rangeB, hi]))
    go_enter Try.func28, Try.ntmps28
    go_wp2_with fail
    refine (cb (c_ValidPeople A0 c0 xs0 w hn0 hw0 hs0 hA0) hv).mono ?_
    rintro e w1 ⟨rfl, hx⟩
    go_wp2_with fail
    refine (cb (c_areNeeded A0 c0 xs0 A1 c1 xs1 w1 hv hn1 (hA0.x hx) (hA1.x hx)) hne).mono ?_
    rintro e w2 ⟨rfl, hx2⟩
    replace hx := hx.trans hx2
    clear hx2
    go_wp2_with fail
    refine (cb (c_within n2 0 99999 _) hi).mono ?_
    rintro e wu ⟨rfl, rfl⟩
    go_wp2_with fail
    go_ret3
    exact ⟨by rw [HB.out.1, HB.out.2.1, HB.out.2.2]; rfl, hx⟩
  cases hi2 : inB n3 n2 99999
  · have HB := hide (full_range hok (show rangeB n2 n3 = false by simp [rangeB, hi2]))
    go_enter Try.func28, Try.ntmps28
    go_wp2_with fail
    refine (cb (c_ValidPeople A0 c0 xs0 w hn0 hw0 hs0 hA0) hv).mono ?_
    rintro e w1 ⟨rfl, hx⟩
    go_wp2_with fail
    refine (cb (c_areNeeded A0 c0 xs0 A1 c1 xs1 w1 hv hn1 (hA0.x hx) (hA1.x hx)) hne).mono ?_
    rintro e w2 ⟨rfl, hx2⟩
    replace hx := hx.trans hx2
    clear hx2
    go_wp2_with fail
    refine (cb (c_within n2 0 99999 _) hi).mono ?_
    rintro e wu ⟨rfl, rfl⟩
    go_wp2_with fail
    refine (cb (c_within n3 n2 99999 _) hi2).mono ?_
    rintro e wu ⟨rfl, rfl⟩
    go_wp2_with fail
    go_ret3
    exact ⟨by rw [HB.out.1, HB.out.2.1, HB.out.2.2]; rfl, hx⟩
  have hrg : rangeB n2 n3 = true := by simp [rangeB, hi, hi2]
  go_enter Try.func28, Try.ntmps28
  go_wp2_with fail
  refine (cb (c_ValidPeople A0 c0 xs0 w hn0 hw0 hs0 hA0) hv).mono ?_
  rintro e w1 ⟨rfl, hx⟩
  go_wp2_with fail
  refine (cb (c_areNeeded A0 c0 xs0 A1 c1 xs1 w1 hv hn1 (hA0.x hx) (hA1.x hx)) hne).mono ?_
  rintro e w2 ⟨rfl, hx2⟩
  replace hx := hx.trans hx2
  clear hx2
  go_wp2_with fail
  refine (cb (c_within n2 0 99999 _) hi).mono ?_
  rintro e wu ⟨rfl, rfl⟩
  go_wp2_with fail
  refine (cb (c_within n3 n2 99999 _) hi2).mono ?_
  rintro e wu ⟨rfl, rfl⟩
  have hnl := need_len hne
  have HCS := hide (fun d => count_same d hv hne)
  have hfl := allF_len (fr := n2) (un := n3) hv
  have HP := hide hv
  go_wp2_with fail
  refine (c_freeDays A0 c0 xs0 n2 n3 w2 hv (hA0.x hx)).mono ?_
  rintro e W7 ⟨A7, c7, rfl, hO7, hx7⟩
  have HX := hide (hx.trans hx7)
  obtain ⟨F, hF⟩ : ∃ F, F = allF xs0 n2 n3 := ⟨_, rfl⟩
  have HF := hide hF
  rw [← hF] at hO7 hfl ⊢
  have HRD := hide (Own.rd (by omega) intC_len hO7 rfl)
  obtain ⟨m, hm⟩ : ∃ m, m = F.length := ⟨_, rfl⟩
  have HM := hide hm
  have HOK := hide hok
  have HIN := hide hrg
  have hfr0 := (inB_true.1 hi).1
  have HAF := hide (fun d hd => (allF_in (ps := xs0) (fr := n2) (un := n3) d hd).1)
  have HA0 := hide hA0
  have HA1 := hide hA1
  rw [← hm] at hfl ⊢
  clear hF hO7 hm hx hx7 hv hne hok hi hi2 hrg hw0 hs0 hw1 hA0 hA1
  go_wp2_with fail
  go_loopw [11, 12, 39] (fun bv mv iv wr => ∃ (q mo : Nat) (b bs : Int), q ≤ m ∧ iv = .int .i64 q ∧ bv = .int .i64 bs ∧ mv = .int .i64 (mo : Int) ∧ mo ≤ 12 ∧ Hid (fullTo xs0 xs1 F q = (b, mo)) ∧ bs = b ∧ IsX W7 wr) (fun _ _ iv _ => m - (intOf iv).toNat)
  case atStart => exact ⟨0, 0, 0, 0, Nat.zero_le _, rfl, rfl, rfl, Nat.zero_le _, hide rfl, rfl, IsX.refl _⟩
  case round =>
    obtain ⟨q, mo, b, bs, hq, rfl, rfl, rfl, hmo, HB, hrl, p, rfl⟩ := hrel
    subst hrl
    by_cases hlt : q < m
    · skip
      have hqx : q < F.length := HM.out ▸ hlt
      obtain ⟨b1, off1, e1, hb1, cd⟩ := int_rd HRD.out (show F[q]? = some F[q] from List.getElem?_eq_getElem _)
      obtain ⟨d, hd⟩ : ∃ d, d = F[q] := ⟨_, rfl⟩
      have HDD := hide hd
      rw [← hd] at cd
      subst e1
      obtain ⟨cv, hcv⟩ : ∃ cv, cv = cntTo xs0 xs1 d xs1.length := ⟨_, rfl⟩
      have HCV := hide hcv
      have hcl := cnt_le xs0 xs1 d xs1.length
      rw [← hcv] at hcl
      clear hd hcv
      have hd0 : 0 ≤ d := by
        have h := HAF.out d (HF.out ▸ HDD.out ▸ List.getElem_mem hqx)
        omega
      by_cases hc : mo < cv
      · have HS := hide (full_yes hqx HB.out (by rw [cntD, ← HDD.out, ← HCV.out]; exact hc))
        rw [cntD, ← HDD.out, ← HCV.out] at HS
        have hcz : (mo : Int) < (cv : Int) := by omega
        go_wp2_with fail
        refine (c_freeOn A0 c0 xs0 A1 c1 xs1 d (xt W7 p) HP.out hnl (HA0.out.x (HX.out.trans ⟨p, rfl⟩)) (HA1.out.x (HX.out.trans ⟨p, rfl⟩))).mono ?_
        rintro e w5 ⟨rfl, hx5⟩
        rw [← HCS.out d]
        rw [← HCV.out]
        obtain ⟨p5, rfl⟩ := IsX.trans ⟨p, rfl⟩ hx5
        clear hx5
        go_wp2_with fail
        go_roundw
        case rel => exact ⟨q + 1, cv, d, d, by omega, by go_num, rfl, rfl, by omega, HS, rfl, ⟨p5, rfl⟩⟩
        case measure => simp [intOf]; omega
      · have HS := hide (full_no hqx HB.out (by rw [cntD, ← HDD.out, ← HCV.out]; exact hc))
        have hcz : ¬ (mo : Int) < (cv : Int) := by omega
        go_wp2_with fail
        refine (c_freeOn A0 c0 xs0 A1 c1 xs1 d (xt W7 p) HP.out hnl (HA0.out.x (HX.out.trans ⟨p, rfl⟩)) (HA1.out.x (HX.out.trans ⟨p, rfl⟩))).mono ?_
        rintro e w5 ⟨rfl, hx5⟩
        rw [← HCS.out d]
        rw [← HCV.out]
        obtain ⟨p5, rfl⟩ := IsX.trans ⟨p, rfl⟩ hx5
        clear hx5
        go_wp2_with fail
        go_roundw
        case rel => exact ⟨q + 1, mo, bs, bs, by omega, by go_num, rfl, rfl, hmo, HS, rfl, ⟨p5, rfl⟩⟩
        case measure => simp [intOf]; omega
    · obtain rfl : q = m := by omega
      have HE := hide (show fullE xs0 xs1 n2 n3 = (bs, mo) by rw [fullE, ← HF.out, ← HM.out]; exact HB.out)
      by_cases hz : mo = 0
      · subst hz
        have HFS := hide (full_none HOK.out HIN.out HE.out)
        rw [show (((0 : Nat) : Int)) = 0 from rfl]
        skip
        go_wp2_with fail
        go_ret3
        exact ⟨by rw [HFS.out.1, HFS.out.2.1, HFS.out.2.2]; rfl, HX.out.trans ⟨p, rfl⟩⟩
      · have HFS := hide (full_some HOK.out HIN.out HE.out hz)
        have hmz : ((mo : Int) == 0) = false := by simp; omega
        clear hz
        go_wp2_with fail
        go_ret3
        exact ⟨by rw [HFS.out.1, HFS.out.2.1, HFS.out.2.2]; rfl, HX.out.trans ⟨p, rfl⟩⟩

end Go.Proofs.Ytfkhhioadklomaa
