/- Offers that clash: what the reference and the program compute; IsDay. Conditions: offers are valid. -/
import Derived.Test.YtlbcoplpdnidnaaDays
namespace Go.Proofs.Ytlbcoplpdnidnaa
set_option linter.unusedVariables false
open Go.RowKit

def gapI (x y : OfferD) (ch : Int) : Int := if (x.Kind.toList == y.Kind.toList) = true then 0 else ch
def clashB (x y : OfferD) (ch : Int) : Bool := if x.Start ≤ y.Start then decide (y.Start < x.Start + x.Length + gapI x y ch) else decide (x.Start < y.Start + y.Length + gapI x y ch)
theorem gap_same {x y : OfferD} {ch : Int} (h : (x.Kind.toList == y.Kind.toList) = true) : gapI x y ch = 0 := by simp only [gapI, h, if_true]
theorem gap_diff {x y : OfferD} {ch : Int} (h : (x.Kind.toList == y.Kind.toList) = false) : gapI x y ch = ch := by simp only [gapI, h, Bool.false_eq_true, if_false]
theorem clash_le {x y : OfferD} {ch : Int} (h : x.Start ≤ y.Start) : clashB x y ch = decide (y.Start < x.Start + x.Length + gapI x y ch) := by simp only [clashB, if_pos h]
theorem clash_gt {x y : OfferD} {ch : Int} (h : ¬ x.Start ≤ y.Start) : clashB x y ch = decide (x.Start < y.Start + y.Length + gapI x y ch) := by simp only [clashB, if_neg h]
theorem clash_sym {x y : OfferD} {ch : Int} (hx : 1 ≤ x.Length) (hy : 1 ≤ y.Length) (hc : 0 ≤ ch) : clashB x y ch = clashB y x ch := by
  have hg : gapI x y ch = gapI y x ch := by
    cases hk : (x.Kind.toList == y.Kind.toList)
    · have hk2 : (y.Kind.toList == x.Kind.toList) = false := by simp only [beq_eq_false_iff_ne] at hk ⊢; exact fun e => hk e.symm
      rw [gap_diff hk, gap_diff hk2]
    · have hk2 : (y.Kind.toList == x.Kind.toList) = true := by simp only [beq_iff_eq] at hk ⊢; exact hk.symm
      rw [gap_same hk, gap_same hk2]
  have hg0 : 0 ≤ gapI y x ch := by unfold gapI; split <;> omega
  by_cases h1 : x.Start ≤ y.Start
  · by_cases h2 : y.Start ≤ x.Start
    · rw [clash_le h1, clash_le h2, hg, decide_eq_true (by omega), decide_eq_true (by omega)]
    · rw [clash_le h1, clash_gt h2, hg]
  · rw [clash_gt h1, clash_le (by omega), hg]

set_option maxHeartbeats 1600000 in
theorem c_l22Clash (x y : OfferD) (b1 o1 b2 o2 : Nat) (ch : Int) (w : World) (hx : 0 ≤ x.Start ∧ x.Start ≤ 1440 ∧ 0 ≤ x.Length ∧ x.Length ≤ 1440) (hy : 0 ≤ y.Start ∧ y.Start ≤ 1440 ∧ 0 ≤ y.Length ∧ y.Length ≤ 1440) (hc : 0 ≤ ch ∧ ch ≤ 240) (hb1 : b1 < w.heap.size) (hb2 : b2 < w.heap.size)
    (k1 : w.cell? ⟨b1, o1 + 1, none⟩ = some (.string x.Kind)) (s1 : w.cell? ⟨b1, o1 + 2, none⟩ = some (.int .i64 x.Start)) (l1 : w.cell? ⟨b1, o1 + 3, none⟩ = some (.int .i64 x.Length))
    (k2 : w.cell? ⟨b2, o2 + 1, none⟩ = some (.string y.Kind)) (s2 : w.cell? ⟨b2, o2 + 2, none⟩ = some (.int .i64 y.Start)) (l2 : w.cell? ⟨b2, o2 + 3, none⟩ = some (.int .i64 y.Length)) :
    Calls Try.prog 180 #[.pointer (some ⟨b1, o1, none⟩), .pointer (some ⟨b2, o2, none⟩), .int .i64 ch] w fun e w' => e = .returned (.bool (clashB x y ch)) ∧ IsX w w' := by
  obtain ⟨x0, x1, x2, x3⟩ := hx
  obtain ⟨y0, y1, y2, y3⟩ := hy
  obtain ⟨h0, h1⟩ := hc
  cases hk : (x.Kind.toList == y.Kind.toList)
  · have HG := hide (gap_diff (ch := ch) hk)
    by_cases hs : x.Start ≤ y.Start
    · have HR := hide (clash_le (ch := ch) hs)
      have hsb : decide (x.Start ≤ y.Start) = true := decide_eq_true hs
      go_enter Try.func180, Try.ntmps180
      go_wp2_with fail
      refine wp_region_x (by kernel_rfl) (by kernel_rfl) ?_
      repeat (first | go_big_quiet_step (fail) | quiet_step (fail))
      refine wpQuiet_nil ?_
      rintro _ ⟨q1, rfl⟩
      go_wp2
      refine wp_region_x (by kernel_rfl) (by kernel_rfl) ?_
      repeat (first | go_big_quiet_step (fail) | quiet_step (fail))
      refine wpQuiet_nil ?_
      rintro _ ⟨q2, rfl⟩
      obtain ⟨q3, hj⟩ : IsX w (xt (xt w q1) q2) := IsX.xt ⟨q1, rfl⟩ q2
      rw [hj]
      clear hj
      go_wp2
      refine wp_region_x (by kernel_rfl) (by kernel_rfl) ?_
      repeat (first | go_big_quiet_step (fail) | quiet_step (fail))
      refine wpQuiet_nil ?_
      rintro _ ⟨q4, rfl⟩
      obtain ⟨q, hj⟩ : IsX w (xt (xt w q3) q4) := IsX.xt ⟨q3, rfl⟩ q4
      rw [hj]
      clear hj
      go_wp2
      go_ret
      exact ⟨by rw [HR.out, HG.out]; rfl, ⟨q, rfl⟩⟩
    · have HR := hide (clash_gt (ch := ch) hs)
      have hsb : decide (x.Start ≤ y.Start) = false := decide_eq_false hs
      go_enter Try.func180, Try.ntmps180
      go_wp2_with fail
      refine wp_region_x (by kernel_rfl) (by kernel_rfl) ?_
      repeat (first | go_big_quiet_step (fail) | quiet_step (fail))
      refine wpQuiet_nil ?_
      rintro _ ⟨q1, rfl⟩
      go_wp2
      refine wp_region_x (by kernel_rfl) (by kernel_rfl) ?_
      repeat (first | go_big_quiet_step (fail) | quiet_step (fail))
      refine wpQuiet_nil ?_
      rintro _ ⟨q2, rfl⟩
      obtain ⟨q3, hj⟩ : IsX w (xt (xt w q1) q2) := IsX.xt ⟨q1, rfl⟩ q2
      rw [hj]
      clear hj
      go_wp2
      refine wp_region_x (by kernel_rfl) (by kernel_rfl) ?_
      repeat (first | go_big_quiet_step (fail) | quiet_step (fail))
      refine wpQuiet_nil ?_
      rintro _ ⟨q4, rfl⟩
      obtain ⟨q, hj⟩ : IsX w (xt (xt w q3) q4) := IsX.xt ⟨q3, rfl⟩ q4
      rw [hj]
      clear hj
      go_wp2
      go_ret
      exact ⟨by rw [HR.out, HG.out]; rfl, ⟨q, rfl⟩⟩
  · have HG := hide (gap_same (ch := ch) hk)
    by_cases hs : x.Start ≤ y.Start
    · have HR := hide (clash_le (ch := ch) hs)
      have hsb : decide (x.Start ≤ y.Start) = true := decide_eq_true hs
      go_enter Try.func180, Try.ntmps180
      go_wp2_with fail
      refine wp_region_x (by kernel_rfl) (by kernel_rfl) ?_
      repeat (first | go_big_quiet_step (fail) | quiet_step (fail))
      refine wpQuiet_nil ?_
      rintro _ ⟨q1, rfl⟩
      go_wp2
      refine wp_region_x (by kernel_rfl) (by kernel_rfl) ?_
      repeat (first | go_big_quiet_step (fail) | quiet_step (fail))
      refine wpQuiet_nil ?_
      rintro _ ⟨q2, rfl⟩
      obtain ⟨q3, hj⟩ : IsX w (xt (xt w q1) q2) := IsX.xt ⟨q1, rfl⟩ q2
      rw [hj]
      clear hj
      go_wp2
      refine wp_region_x (by kernel_rfl) (by kernel_rfl) ?_
      repeat (first | go_big_quiet_step (fail) | quiet_step (fail))
      refine wpQuiet_nil ?_
      rintro _ ⟨q4, rfl⟩
      obtain ⟨q, hj⟩ : IsX w (xt (xt w q3) q4) := IsX.xt ⟨q3, rfl⟩ q4
      rw [hj]
      clear hj
      go_wp2
      go_ret
      exact ⟨by rw [HR.out, HG.out]; simp, ⟨q, rfl⟩⟩
    · have HR := hide (clash_gt (ch := ch) hs)
      have hsb : decide (x.Start ≤ y.Start) = false := decide_eq_false hs
      go_enter Try.func180, Try.ntmps180
      go_wp2_with fail
      refine wp_region_x (by kernel_rfl) (by kernel_rfl) ?_
      repeat (first | go_big_quiet_step (fail) | quiet_step (fail))
      refine wpQuiet_nil ?_
      rintro _ ⟨q1, rfl⟩
      go_wp2
      refine wp_region_x (by kernel_rfl) (by kernel_rfl) ?_
      repeat (first | go_big_quiet_step (fail) | quiet_step (fail))
      refine wpQuiet_nil ?_
      rintro _ ⟨q2, rfl⟩
      obtain ⟨q3, hj⟩ : IsX w (xt (xt w q1) q2) := IsX.xt ⟨q1, rfl⟩ q2
      rw [hj]
      clear hj
      go_wp2
      refine wp_region_x (by kernel_rfl) (by kernel_rfl) ?_
      repeat (first | go_big_quiet_step (fail) | quiet_step (fail))
      refine wpQuiet_nil ?_
      rintro _ ⟨q4, rfl⟩
      obtain ⟨q, hj⟩ : IsX w (xt (xt w q3) q4) := IsX.xt ⟨q3, rfl⟩ q4
      rw [hj]
      clear hj
      go_wp2
      go_ret
      exact ⟨by rw [HR.out, HG.out]; simp, ⟨q, rfl⟩⟩

set_option maxHeartbeats 1600000 in
theorem c_offersConflict (x y : OfferD) (ch : Int) (w : World) (hx : 0 ≤ x.Start ∧ x.Start ≤ 1440 ∧ 0 ≤ x.Length ∧ x.Length ≤ 1440) (hy : 0 ≤ y.Start ∧ y.Start ≤ 1440 ∧ 0 ≤ y.Length ∧ y.Length ≤ 1440) (hc : 0 ≤ ch ∧ ch ≤ 240) :
    Calls Try.prog 182 #[.agg #[.string x.Id, .string x.Kind, .int .i64 x.Start, .int .i64 x.Length, .int .i64 x.Worth], .agg #[.string y.Id, .string y.Kind, .int .i64 y.Start, .int .i64 y.Length, .int .i64 y.Worth], .int .i64 ch] w fun e w' => e = .returned (.bool (clashB x y ch)) ∧ IsX w w' := by
  obtain ⟨x0, x1, x2, x3⟩ := hx
  obtain ⟨y0, y1, y2, y3⟩ := hy
  obtain ⟨h0, h1⟩ := hc
  cases hk : (x.Kind.toList == y.Kind.toList)
  · have hk2 : (y.Kind.toList == x.Kind.toList) = false := by simp only [beq_eq_false_iff_ne] at hk ⊢; exact fun e => hk e.symm
    have HG := hide (gap_diff (ch := ch) hk)
    by_cases hs : x.Start ≤ y.Start
    · have HR := hide (clash_le (ch := ch) hs)
      go_enter Try.func182, Try.ntmps182
      go_wp2

      go_ret
      exact ⟨by rw [HR.out, HG.out]; rfl, by first | exact IsX.alloc (IsX.alloc (IsX.refl _) _) _ | skip⟩
    · have HR := hide (clash_gt (ch := ch) hs)
      go_enter Try.func182, Try.ntmps182
      go_wp2

      go_ret
      exact ⟨by rw [HR.out, HG.out]; rfl, by first | exact IsX.alloc (IsX.alloc (IsX.refl _) _) _ | skip⟩
  · have hk2 : (y.Kind.toList == x.Kind.toList) = true := by simp only [beq_iff_eq] at hk ⊢; exact hk.symm
    have HG := hide (gap_same (ch := ch) hk)
    by_cases hs : x.Start ≤ y.Start
    · have HR := hide (clash_le (ch := ch) hs)
      go_enter Try.func182, Try.ntmps182
      go_wp2

      go_ret
      exact ⟨by rw [HR.out, HG.out]; simp, by first | exact IsX.alloc (IsX.alloc (IsX.refl _) _) _ | skip⟩
    · have HR := hide (clash_gt (ch := ch) hs)
      go_enter Try.func182, Try.ntmps182
      go_wp2

      go_ret
      exact ⟨by rw [HR.out, HG.out]; simp, by first | exact IsX.alloc (IsX.alloc (IsX.refl _) _) _ | skip⟩

theorem offers_small {xs : List OfferD} (h : offersB xs = true) : ∀ x ∈ xs, 0 ≤ x.Start ∧ x.Start ≤ 1440 ∧ 0 ≤ x.Length ∧ x.Length ≤ 1440 := fun x hx => by
  have := offers_ok h x hx; omega
/-- whether two offers of a list clash, by their indices -/
def clashAt (xs : List OfferD) (ch : Int) (j : Nat) (t : Int) : Bool := match xs[t.toNat]?, xs[j]? with
  | some a, some b => clashB a b ch
  | _, _ => false
theorem clash_at {xs : List OfferD} {ch : Int} {i j : Nat} {t : Int} (hi : i < xs.length) (hj : j < xs.length) (e : t = (i : Int)) : clashAt xs ch j t = clashB xs[i] xs[j] ch := by
  subst e
  simp only [clashAt, Int.toNat_natCast, List.getElem?_eq_getElem hi, List.getElem?_eq_getElem hj]

theorem c_l00Min (a b : Int) (w : World) (h : a < b) : Calls Try.prog 178 #[.int .i64 a, .int .i64 b] w fun e w' => e = .returned (.int .i64 a) ∧ w = w' := by
  go_enter Try.func178, Try.ntmps178
  go_wp2
  go_ret
  exact ⟨rfl, rfl⟩
theorem c_l00Max (a b : Int) (w : World) (h : a < b) : Calls Try.prog 179 #[.int .i64 a, .int .i64 b] w fun e w' => e = .returned (.int .i64 b) ∧ w = w' := by
  go_enter Try.func179, Try.ntmps179
  go_wp2
  go_ret
  exact ⟨rfl, rfl⟩
set_option maxHeartbeats 1600000 in
theorem c_l22Free (A0 : Option Addr) (c0 : Nat) (xs : List OfferD) (ch : Int) (A1 : Option Addr) (c1 : Nat) (ts : List Int) (j : Nat) (w : World) (hv : offersB xs = true) (hc : 0 ≤ ch ∧ ch ≤ 240) (hj : j < xs.length) (ht : ∀ t ∈ ts, 0 ≤ t ∧ t < j) (hn1 : ts.length ≤ 1099511627776)
    (hA0 : Rd OfferD.cells 5 w A0 xs) (hA1 : Rd intC 1 w A1 ts) :
    Calls Try.prog 144 #[.slice A0 xs.length c0, .int .i64 ch, .slice A1 ts.length c1, .int .i64 (j : Int)] w fun e w' => e = .returned (.bool (!ts.any (clashAt xs ch j))) ∧ IsX w w' := by
  have hgl := offers_len hv
  have HO := hide (offers_small hv)
  have HT := hide ht
  obtain ⟨n, hnn⟩ : ∃ n, n = ts.length := ⟨_, rfl⟩
  have HN := hide hnn
  rw [← hnn] at hn1 ⊢
  clear hnn hv ht
  have HC := hide hc
  obtain ⟨b, off, rfl, hb, -, k2, s2, l2, -⟩ := OfferD.rd hA0 (show xs[j]? = some xs[j] from List.getElem?_eq_getElem _)
  have HA0 := hide hA0
  have HOj := hide (HO.out _ (List.getElem_mem hj))
  clear hc hA0
  go_enter Try.func144, Try.ntmps144
  go_wp2
  go_loopw [9] (fun i wr => ∃ k : Nat, k ≤ n ∧ i = .int .i64 k ∧ Hid (∀ i (h : i < ts.length), i < k → clashAt xs ch j ts[i] = false) ∧ IsX w wr) (fun i _ => n - (intOf i).toNat)
  case atStart => exact ⟨0, Nat.zero_le _, rfl, hide (fun i h hi => absurd hi (by omega)), IsX.refl _⟩
  case round =>
    obtain ⟨k, hk, rfl, HF, p, rfl⟩ := hrel
    by_cases hlt : k < n
    · have hltx : k < ts.length := HN.out ▸ hlt
      obtain ⟨b', off', rfl, hb', d0⟩ := int_rd hA1 (show ts[k]? = some ts[k] from List.getElem?_eq_getElem _)
      have hmem := HT.out _ (List.getElem_mem hltx)
      obtain ⟨i, hi⟩ := Int.eq_ofNat_of_zero_le hmem.1
      have hij : i < j := by omega
      have hil : i < xs.length := by omega
      have HE := hide (clash_at (ch := ch) hil hj hi)
      rw [hi] at d0
      clear hi hmem hA1
      obtain ⟨bb, oo, e0, hbb, -, k1, s1, l1, -⟩ := OfferD.rd HA0.out (show xs[i]? = some xs[i] from List.getElem?_eq_getElem _)
      injection e0 with e0
      injection e0 with e1 e2
      subst e1 e2
      have HK1 := hide k1
      have HS1 := hide s1
      have HL1 := hide l1
      have HK2 := hide k2
      have HS2 := hide s2
      have HL2 := hide l2
      have HOi := hide (HO.out _ (List.getElem_mem hil))
      clear k1 s1 l1 k2 s2 l2 hbb
      cases hcl : clashB xs[i] xs[j] ch
      · have HF' := hide (step_all (p := fun t => !clashAt xs ch j t) hltx (fun i h h2 => by rw [HF.out i h h2]; rfl) (show (!clashAt xs ch j ts[k]) = true by rw [HE.out, hcl]; rfl))
        go_wp2_with first | (go_at_call 178; refine (c_l00Min _ _ _ (by omega)).mono ?_; rintro e w' ⟨rfl, rfl⟩) | (go_at_call 179; refine (c_l00Max _ _ _ (by omega)).mono ?_; rintro e w' ⟨rfl, rfl⟩)
        refine wp_region_x (by kernel_rfl) (by kernel_rfl) ?_
        repeat (go_big_quiet_step ((go_at_call 180; exact call_x (cb (c_l22Clash xs[i] xs[j] b (off + i * 5) b (off + j * 5) ch _ HOi.out HOj.out HC.out (Nat.lt_of_lt_of_le hb (IsX.size (IsX.xt ⟨p, rfl⟩ _))) (Nat.lt_of_lt_of_le hb (IsX.size (IsX.xt ⟨p, rfl⟩ _))) (keep (IsX.xt ⟨p, rfl⟩ _) hb HK1.out) (keep (IsX.xt ⟨p, rfl⟩ _) hb HS1.out) (keep (IsX.xt ⟨p, rfl⟩ _) hb HL1.out) (keep (IsX.xt ⟨p, rfl⟩ _) hb HK2.out) (keep (IsX.xt ⟨p, rfl⟩ _) hb HS2.out) (keep (IsX.xt ⟨p, rfl⟩ _) hb HL2.out)) hcl))))
        refine wpQuiet_nil ?_
        rintro _ ⟨q, rfl⟩
        go_wp2
        go_roundw
        case rel => exact ⟨k + 1, by omega, by go_num, hide (fun i h hi => by have := HF'.out i h hi; simpa using this), IsX.xt ⟨p, rfl⟩ q⟩
        case measure => simp [intOf]; omega
      · have HR := hide (show (!ts.any (clashAt xs ch j)) = false by
          simp only [Bool.not_eq_false', List.any_eq_true]
          exact ⟨ts[k], List.getElem_mem hltx, by rw [HE.out, hcl]⟩)
        go_wp2_with first | (go_at_call 178; refine (c_l00Min _ _ _ (by omega)).mono ?_; rintro e w' ⟨rfl, rfl⟩) | (go_at_call 179; refine (c_l00Max _ _ _ (by omega)).mono ?_; rintro e w' ⟨rfl, rfl⟩)
        refine wp_region_x (by kernel_rfl) (by kernel_rfl) ?_
        repeat (go_big_quiet_step ((go_at_call 180; exact call_x (cb (c_l22Clash xs[i] xs[j] b (off + i * 5) b (off + j * 5) ch _ HOi.out HOj.out HC.out (Nat.lt_of_lt_of_le hb (IsX.size (IsX.xt ⟨p, rfl⟩ _))) (Nat.lt_of_lt_of_le hb (IsX.size (IsX.xt ⟨p, rfl⟩ _))) (keep (IsX.xt ⟨p, rfl⟩ _) hb HK1.out) (keep (IsX.xt ⟨p, rfl⟩ _) hb HS1.out) (keep (IsX.xt ⟨p, rfl⟩ _) hb HL1.out) (keep (IsX.xt ⟨p, rfl⟩ _) hb HK2.out) (keep (IsX.xt ⟨p, rfl⟩ _) hb HS2.out) (keep (IsX.xt ⟨p, rfl⟩ _) hb HL2.out)) hcl))))
        refine wpQuiet_nil ?_
        rintro _ ⟨q, rfl⟩
        go_wp2
        go_ret
        exact ⟨by rw [HR.out]; rfl, IsX.xt ⟨p, rfl⟩ q⟩
    · obtain rfl : k = n := by omega
      have HR := hide (show (!ts.any (clashAt xs ch j)) = true by
        simp only [Bool.not_eq_true', List.any_eq_false]
        intro t htm
        obtain ⟨i, hi, rfl⟩ := List.getElem_of_mem htm
        have := HF.out i hi (by have := HN.out; omega)
        simp [this])
      go_wp2
      go_ret
      exact ⟨by rw [HR.out]; rfl, ⟨p, rfl⟩⟩

end Go.Proofs.Ytlbcoplpdnidnaa
