/- IsDay: what the reference and the program compute. Conditions: offers are valid. -/
import Derived.Test.YtdedaoafihomoaaIsDayFns
namespace Go.Proofs.Ytdedaoafihomoaa
set_option linter.unusedVariables false
open Go.RowKit

set_option maxHeartbeats 1600000 in
theorem c_confClo (A0 : Option Addr) (c0 : Nat) (xs : List OfferD) (ch : Int) (k i : Nat) (t : Int) (b1 b2 b3 : Nat) (w : World) (hv : offersB xs = true) (hc : 0 ≤ ch ∧ ch ≤ 240) (hk : k < xs.length) (hi : i < xs.length) (ht : t = (k : Int)) (hA0 : Rd OfferD.cells 5 w A0 xs)
    (hb1 : b1 < w.heap.size) (hb2 : b2 < w.heap.size) (hb3 : b3 < w.heap.size) (l1 : w.cell? ⟨b1, 0, none⟩ = some (.slice A0 xs.length c0)) (l2 : w.cell? ⟨b2, 0, none⟩ = some (.int .i64 (i : Int))) (l3 : w.cell? ⟨b3, 0, none⟩ = some (.int .i64 ch)) :
    Calls Try.prog 37 #[.int .i64 t, .pointer (some ⟨b1, 0, none⟩), .pointer (some ⟨b2, 0, none⟩), .pointer (some ⟨b3, 0, none⟩)] w fun e w' => e = .returned (.bool (clashAt xs ch i t)) ∧ IsX w w' := by
  have HR := hide (clash_at (ch := ch) hk hi ht)
  subst ht
  have hgl := offers_len hv
  have HX := hide (offers_small hv _ (List.getElem_mem hk))
  have HY := hide (offers_small hv _ (List.getElem_mem hi))
  have HC := hide hc
  obtain ⟨b, off, rfl, hb, p0, p1, p2, p3, p4⟩ := OfferD.rd hA0 (show xs[k]? = some xs[k] from List.getElem?_eq_getElem _)
  obtain ⟨b', off', e, hb', q0, q1, q2, q3, q4⟩ := OfferD.rd hA0 (show xs[i]? = some xs[i] from List.getElem?_eq_getElem _)
  injection e with e
  injection e with e1 e2
  subst e1 e2
  clear hA0 hv hc hb'
  go_enter Try.func37, Try.ntmps37
  go_wp2
  refine wp_region_x (by kernel_rfl) (by kernel_rfl) ?_
  repeat (go_big_quiet_step ((go_at_call 25; exact call_x (c_offersConflict xs[k] xs[i] ch _ HX.out HY.out HC.out))))
  refine wpQuiet_nil ?_
  rintro _ ⟨q, rfl⟩
  go_wp2
  go_ret
  exact ⟨by rw [HR.out]; rfl, ⟨q, rfl⟩⟩

set_option maxHeartbeats 400000 in
theorem c_Index_conf (pred : Int → Bool) (b0 b1 b2 : Nat) (A : Option Addr) (c : Nat) (xs : List Int) (w : World) (hn : xs.length ≤ 1099511627776) (hA : Rd intC 1 w A xs)
    (hclo : ∀ t ∈ xs, ∀ W, IsX w W → Calls Try.prog 37 #[.int .i64 t, .pointer (some ⟨b0, 0, none⟩), .pointer (some ⟨b1, 0, none⟩), .pointer (some ⟨b2, 0, none⟩)] W fun e w' => e = .returned (.bool (pred t)) ∧ IsX W w') :
    Calls Try.prog 45 #[.slice A xs.length c, .func (.func 37) #[] #[.pointer (some ⟨b0, 0, none⟩), .pointer (some ⟨b1, 0, none⟩), .pointer (some ⟨b2, 0, none⟩)]] w fun e w' => e = .returned (.int .i64 (idxI pred xs)) ∧ IsX w w' := by
  obtain ⟨n, hnn⟩ : ∃ n, n = xs.length := ⟨_, rfl⟩
  have HN := hide hnn
  have HC := hide hclo
  rw [← hnn] at hn ⊢
  clear hnn hclo
  go_enter Try.func45, Try.ntmps45
  go_wp2
  go_loopw [8] (fun i wr => ∃ k : Nat, k ≤ n ∧ i = .int .i64 k ∧ (∀ i (h : i < xs.length), i < k → pred xs[i] = false) ∧ IsX w wr) (fun i _ => n - (intOf i).toNat)
  case atStart => exact ⟨0, Nat.zero_le _, rfl, fun i h hi => absurd hi (by omega), IsX.refl _⟩
  case round =>
    obtain ⟨k, hk, rfl, hall, p, rfl⟩ := hrel
    have HA := hide hall
    clear hall
    by_cases hlt : k < n
    · have hltx : k < xs.length := HN.out ▸ hlt
      obtain ⟨b, off, rfl, hb, c0⟩ := int_rd hA (show xs[k]? = some xs[k] from List.getElem?_eq_getElem _)
      clear hA
      cases hp : pred xs[k]
      · have HP := hide hp
        go_wp2_with (go_at_call 37; refine (cb (HC.out _ (List.getElem_mem hltx) _ ⟨p, rfl⟩) hp).mono ?_; rintro e w1 ⟨rfl, q, rfl⟩)
        go_roundw
        case rel => exact ⟨k + 1, by omega, by go_num, step_all hltx HA.out HP.out, IsX.xt ⟨p, rfl⟩ q⟩
        case measure => simp [intOf]; omega
      · have HR := hide (idxI_at hltx HA.out hp)
        go_wp2_with (go_at_call 37; refine (cb (HC.out _ (List.getElem_mem hltx) _ ⟨p, rfl⟩) hp).mono ?_; rintro e w1 ⟨rfl, q, rfl⟩)
        go_ret
        exact ⟨by rw [HR.out]; rfl, IsX.xt ⟨p, rfl⟩ q⟩
    · have HR := hide (idxI_none (p := pred) (xs := xs) (fun i h => HA.out i h (by have := HN.out; omega)))
      go_wp2
      go_ret
      exact ⟨by rw [HR.out]; rfl, ⟨p, rfl⟩⟩

theorem c_Contains_conf (pred : Int → Bool) (b0 b1 b2 : Nat) (A : Option Addr) (c : Nat) (xs : List Int) (w : World) (hn : xs.length ≤ 1099511627776) (hA : Rd intC 1 w A xs)
    (hclo : ∀ t ∈ xs, ∀ W, IsX w W → Calls Try.prog 37 #[.int .i64 t, .pointer (some ⟨b0, 0, none⟩), .pointer (some ⟨b1, 0, none⟩), .pointer (some ⟨b2, 0, none⟩)] W fun e w' => e = .returned (.bool (pred t)) ∧ IsX W w') :
    Calls Try.prog 36 #[.slice A xs.length c, .func (.func 37) #[] #[.pointer (some ⟨b0, 0, none⟩), .pointer (some ⟨b1, 0, none⟩), .pointer (some ⟨b2, 0, none⟩)]] w fun e w' => e = .returned (.bool (xs.any pred)) ∧ IsX w w' := by
  have HI := hide (idxI_ge pred xs)
  go_enter Try.func36, Try.ntmps36
  go_wp2_with fail
  refine (c_Index_conf pred b0 b1 b2 A c xs w hn hA hclo).mono ?_
  rintro e w1 ⟨rfl, hx⟩
  go_wp2_with fail
  go_ret
  exact ⟨by rw [← HI.out.2.2]; rfl, hx⟩

set_option maxHeartbeats 800000 in
theorem c_conflictsAny (A0 : Option Addr) (c0 : Nat) (xs : List OfferD) (A1 : Option Addr) (c1 : Nat) (ts : List Int) (j : Nat) (ch : Int) (w : World) (hv : offersB xs = true) (hc : 0 ≤ ch ∧ ch ≤ 240) (hj : j < xs.length) (ht : ∀ t ∈ ts, 0 ≤ t ∧ t < (xs.length : Int)) (hn1 : ts.length ≤ 1099511627776)
    (hA0 : Rd OfferD.cells 5 w A0 xs) (hA1 : Rd intC 1 w A1 ts) :
    Calls Try.prog 23 #[.slice A0 xs.length c0, .slice A1 ts.length c1, .int .i64 (j : Int), .int .i64 ch] w fun e w' => e = .returned (.bool (ts.any (clashAt xs ch j))) ∧ IsX w w' := by
  have HV := hide hv
  have HC := hide hc
  have HT := hide ht
  clear hv hc ht
  go_enter Try.func23, Try.ntmps23
  go_wp2_with fail
  obtain ⟨W, hW⟩ : ∃ W, W = ((w.alloc (.cells #[.slice A0 xs.length c0] 24)).alloc (.cells #[.int .i64 (j : Int)] 2)).alloc (.cells #[.int .i64 ch] 2) := ⟨_, rfl⟩
  have hx : IsX w W := hW ▸ (((IsX.refl w).alloc _).alloc _).alloc _
  rw [← hW]
  have hsz : W.heap.size = w.heap.size + 3 := by rw [hW]; simp
  have l1 : W.cell? ⟨w.heap.size, 0, none⟩ = some (.slice A0 xs.length c0) := by rw [hW]; simp [go_sem]
  have l2 : W.cell? ⟨w.heap.size + 1, 0, none⟩ = some (.int .i64 (j : Int)) := by rw [hW]; simp [go_sem]
  have l3 : W.cell? ⟨w.heap.size + 1 + 1, 0, none⟩ = some (.int .i64 ch) := by rw [hW]; simp [go_sem]
  clear hW
  refine (c_Contains_conf (clashAt xs ch j) w.heap.size (w.heap.size + 1) (w.heap.size + 1 + 1) A1 c1 ts W hn1 (hA1.x hx) (fun t htm V hV => ?_)).mono ?_
  · obtain ⟨k, hk⟩ := Int.eq_ofNat_of_zero_le (HT.out t htm).1
    have hkl : k < xs.length := by have := (HT.out t htm).2; omega
    exact c_confClo A0 c0 xs ch k j t _ _ _ V HV.out HC.out hkl hj hk (hA0.x (hx.trans hV)) (Nat.lt_of_lt_of_le (by omega) hV.size) (Nat.lt_of_lt_of_le (by omega) hV.size) (Nat.lt_of_lt_of_le (by omega) hV.size)
      (keep hV (by omega) l1) (keep hV (by omega) l2) (keep hV (by omega) l3)
  rintro e w1 ⟨rfl, hx1⟩
  go_wp2_with fail
  go_ret
  exact ⟨rfl, hx.trans hx1⟩

def dayAll (xs : List OfferD) (ch : Int) (ps : List Int) : Bool := (List.range ps.length).all fun i => !(ps.take i).any (clashAt xs ch (ps.getD i 0).toNat)
theorem day_at {xs : List OfferD} {ch : Int} {ps : List Int} {i j : Nat} (h : i < ps.length) (e : ps[i] = (j : Int)) : (ps.getD i 0).toNat = j := by
  rw [List.getD_eq_getElem?_getD, List.getElem?_eq_getElem h, Option.getD_some, e]; rfl
theorem day_bad {xs : List OfferD} {ch : Int} {ps : List Int} {i j : Nat} (h : i < ps.length) (e : ps[i] = (j : Int)) (hb : (ps.take i).any (clashAt xs ch j) = true) : dayAll xs ch ps = false := by
  rw [dayAll, List.all_eq_false]
  exact ⟨i, by simpa using h, by rw [day_at (xs := xs) (ch := ch) h e, hb]; simp⟩
theorem day_all {xs : List OfferD} {ch : Int} {ps : List Int} (h : ∀ i, i < ps.length → (ps.take i).any (clashAt xs ch (ps.getD i 0).toNat) = false) : dayAll xs ch ps = true := by
  rw [dayAll, List.all_eq_true]
  intro i hi
  rw [h i (by simpa using hi)]; rfl
def dayB (xs : List OfferD) (ch : Int) (ps : List Int) : Bool := offersB xs && inB ch 0 240 && risesB ps 0 ((xs.length : Nat) - 1 : Int) && dayAll xs ch ps

theorem c_isChange (n : Int) (w : World) : Calls Try.prog 17 #[.int .i64 n] w fun e w' => e = .returned (.bool (inB n 0 240)) ∧ w = w' := by
  go_enter Try.func17, Try.ntmps17
  go_wp2_with (go_at_call 18; refine (c_within _ _ _ _).mono ?_; rintro e w' ⟨rfl, rfl⟩)
  go_ret
  exact ⟨rfl, rfl⟩

set_option maxHeartbeats 1600000 in
theorem i_IsDay (A0 : Option Addr) (c0 : Nat) (xs0 : List OfferD) (n1 : Int) (A2 : Option Addr) (c2 : Nat) (xs2 : List Int) (w : World) (hn0 : xs0.length ≤ 1099511627776) (hw0 : ∀ x ∈ xs0, x.wf) (hA0 : Rd OfferD.cells 5 w A0 xs0) (hb1 : intWf n1) (hn2 : xs2.length ≤ 1099511627776) (hw2 : ∀ x ∈ xs2, intWf x) (hA2 : Rd intC 1 w A2 xs2) (hc2 : xs2.length ≤ c2) :
    Calls Try.prog 10 #[.slice A0 xs0.length c0, .int .i64 n1, .slice A2 xs2.length c2] w fun e w' => e = .returned (.bool (dayB xs0 n1 xs2)) ∧ IsX w w' := by
  cases hv : offersB xs0
  · have HR := hide (show dayB xs0 n1 xs2 = false by simp [dayB, hv])
    go_enter Try.func10, Try.ntmps10
    go_wp2_with fail
    refine (cb (c_ValidOffers A0 c0 xs0 w hn0 hw0 hA0) hv).mono ?_
    rintro e w1 ⟨rfl, hx⟩
    go_wp2_with fail
    go_ret
    exact ⟨by rw [HR.out]; rfl, hx⟩
  cases hch : inB n1 0 240
  · have HR := hide (show dayB xs0 n1 xs2 = false by simp [dayB, hch])
    go_enter Try.func10, Try.ntmps10
    go_wp2_with fail
    refine (cb (c_ValidOffers A0 c0 xs0 w hn0 hw0 hA0) hv).mono ?_
    rintro e w1 ⟨rfl, hx⟩
    go_wp2_with fail
    refine (cb (c_isChange n1 w1) hch).mono ?_
    rintro e w' ⟨rfl, rfl⟩
    go_wp2_with fail
    go_ret
    exact ⟨by rw [HR.out]; rfl, hx⟩
  cases hr : risesB xs2 0 ((xs0.length : Nat) - 1 : Int)
  · have HR := hide (show dayB xs0 n1 xs2 = false by simp [dayB, hr])
    go_enter Try.func10, Try.ntmps10
    go_wp2_with fail
    refine (cb (c_ValidOffers A0 c0 xs0 w hn0 hw0 hA0) hv).mono ?_
    rintro e w1 ⟨rfl, hx⟩
    go_wp2_with fail
    refine (cb (c_isChange n1 w1) hch).mono ?_
    rintro e w' ⟨rfl, rfl⟩
    go_wp2_with fail
    refine (cb (c_areIndices A2 c2 xs2 (xs0.length : Nat) w1 hn2 (by omega) (by omega) (hA2.x hx)) hr).mono ?_
    rintro e w2 ⟨rfl, hx2⟩
    go_wp2_with fail
    go_ret
    exact ⟨by rw [HR.out]; rfl, hx.trans hx2⟩
  have HR := hide (show dayB xs0 n1 xs2 = dayAll xs0 n1 xs2 by simp [dayB, hv, hch, hr])
  go_enter Try.func10, Try.ntmps10
  go_wp2_with fail
  refine (cb (c_ValidOffers A0 c0 xs0 w hn0 hw0 hA0) hv).mono ?_
  rintro e w1 ⟨rfl, hx⟩
  go_wp2_with fail
  refine (cb (c_isChange n1 w1) hch).mono ?_
  rintro e w' ⟨rfl, rfl⟩
  go_wp2_with fail
  refine (cb (c_areIndices A2 c2 xs2 (xs0.length : Nat) w1 hn2 (by omega) (by omega) (hA2.x hx)) hr).mono ?_
  rintro e w2 ⟨rfl, hx2⟩
  
  have HX := hide (hx.trans hx2)
  have HV := hide hv
  have HC := hide (inB_true.1 hch)
  have HM := hide (rises_mem hr)
  have HS := hide hr
  have hA0' := hA0.x HX.out
  have hA2' := hA2.x HX.out
  clear hA0 hA2 hw0 hw2 hx hx2 hv hch
  obtain ⟨n, hnn⟩ : ∃ n, n = xs2.length := ⟨_, rfl⟩
  have HN := hide hnn
  rw [← hnn] at hn2 hc2 ⊢
  clear hnn hr
  go_wp2
  go_loopw [26] (fun i wr => ∃ k : Nat, k ≤ n ∧ i = .int .i64 k ∧ Hid (∀ i, i < k → (xs2.take i).any (clashAt xs0 n1 (xs2.getD i 0).toNat) = false) ∧ IsX w2 wr) (fun i _ => n - (intOf i).toNat)
  case atStart => exact ⟨0, Nat.zero_le _, rfl, hide (fun i hi => absurd hi (by omega)), IsX.refl _⟩
  case round =>
    obtain ⟨k, hk, rfl, HF, p, rfl⟩ := hrel
    by_cases hlt : k < n
    · have hltp : k < xs2.length := HN.out ▸ hlt
      obtain ⟨b', off', rfl, hb', d0⟩ := int_rd hA2' (show xs2[k]? = some xs2[k] from List.getElem?_eq_getElem _)
      have hmem := HM.out _ (List.getElem_mem hltp)
      obtain ⟨j, hj⟩ := Int.eq_ofNat_of_zero_le hmem.1
      have hjl : j < xs0.length := by omega
      have htk : (xs2.take k).length = k := by rw [List.length_take]; omega
      have htm : ∀ t ∈ xs2.take k, 0 ≤ t ∧ t < (j : Int) := fun t ht => by
        obtain ⟨i, hi, rfl⟩ := List.getElem_of_mem ht
        have hik : i < k := by omega
        rw [List.getElem_take]
        have h1 := HM.out _ (List.getElem_mem (show i < xs2.length by omega))
        have h2 := rises_pair HS.out hik hltp
        omega
      rw [hj] at d0
      have HE := hide (day_at (xs := xs0) (ch := n1) hltp hj)
      have HJ := hide hj
      have hsub : Rd intC 1 w2 (some ⟨b', off', none⟩) (xs2.take k) := fun i x hx => by
        rw [List.getElem?_take] at hx
        split at hx
        · exact hA2' i x hx
        · cases hx
      have hfree : ∀ W, IsX w2 W → Calls Try.prog 23 #[.slice A0 xs0.length c0, .slice (some ⟨b', off', none⟩) k c2, .int .i64 (j : Int), .int .i64 n1] W fun e w' => e = .returned (.bool ((xs2.take k).any (clashAt xs0 n1 j))) ∧ IsX W w' := fun W hW => by
        have h := c_conflictsAny A0 c0 xs0 (some ⟨b', off', none⟩) c2 (xs2.take k) j n1 W HV.out HC.out hjl (fun t ht => ⟨(htm t ht).1, by have := (htm t ht).2; omega⟩) (by omega) (hA0'.x hW) (hsub.x hW)
        rw [htk] at h; exact h
      have HFR := hide hfree
      clear hA0' hA2' hj hmem htm hsub hfree
      cases hcl : (xs2.take k).any (clashAt xs0 n1 j)
      · have HF' := hide (show ∀ i, i < k + 1 → (xs2.take i).any (clashAt xs0 n1 (xs2.getD i 0).toNat) = false from fun i hi => by
          by_cases e : i = k
          · subst e; rw [HE.out]; exact hcl
          · exact HF.out i (by omega))
        go_wp2_with (go_at_call 23; refine (cb (HFR.out _ ⟨p, rfl⟩) hcl).mono ?_; rintro e w' ⟨rfl, q, rfl⟩)
        go_roundw
        case rel => exact ⟨k + 1, by omega, by go_num, HF', IsX.xt ⟨p, rfl⟩ q⟩
        case measure => simp [intOf]; omega
      · have HD := hide (day_bad hltp HJ.out hcl)
        go_wp2_with (go_at_call 23; refine (cb (HFR.out _ ⟨p, rfl⟩) hcl).mono ?_; rintro e w' ⟨rfl, q, rfl⟩)
        go_ret
        exact ⟨by rw [HR.out, HD.out]; rfl, HX.out.trans (IsX.xt ⟨p, rfl⟩ q)⟩
    · obtain rfl : k = n := by omega
      have HD := hide (day_all (xs := xs0) (ch := n1) (fun i hi => HF.out i (by rw [HN.out]; exact hi)))
      go_wp2
      go_ret
      exact ⟨by rw [HR.out, HD.out]; rfl, HX.out.trans ⟨p, rfl⟩⟩

end Go.Proofs.Ytdedaoafihomoaa
