/- Meeting days: MeetingDay and FullestDay of the reference and of the program. Conditions: lists no longer than 2^40. -/
import Derived.Test.YtfkhhioadklomaaMeetFns
import Derived.Test.YtfkhhioadklomaaRunsFns
namespace Go.Proofs.Ytfkhhioadklomaa
set_option linter.unusedVariables false
open Go.RowKit Go.Sort

set_option maxHeartbeats 1600000 in
theorem c_l21Names12 (A : Option Addr) (c : Nat) (xs : List ByteArray) (w : World) (hn : xs.length ≤ 1099511627776) (hw : ∀ x ∈ xs, strWf x) (hA : Rd strC 1 w A xs) :
    Calls Try.prog 61 #[.slice A xs.length c, .int .i64 12] w fun e w' => e = .returned (.bool (cuesB xs && decide (xs.length ≤ 12))) ∧ IsX w w' := by
  obtain ⟨n, hnn⟩ : ∃ n, n = xs.length := ⟨_, rfl⟩
  have HN := hide hnn
  rw [← hnn] at hn ⊢
  clear hnn
  have HW := hide hw
  clear hw
  go_enter Try.func61, Try.ntmps61
  go_wp2
  go_loopw [5] (fun i wr => ∃ k : Nat, k ≤ n ∧ i = .int .i64 k ∧ (∀ i, i < k → goodAt nameB strGe xs i = true) ∧ IsX w wr) (fun i _ => n - (intOf i).toNat)
  case atStart => exact ⟨0, Nat.zero_le _, rfl, fun i hi => absurd hi (by omega), IsX.refl _⟩
  case round =>
    obtain ⟨k, hk, rfl, hall, p, rfl⟩ := hrel
    have HA := hide hall
    clear hall
    by_cases hlt : k < n
    · have hltx : k < xs.length := HN.out ▸ hlt
      obtain ⟨b, off, rfl, hb, c0⟩ := str_rd hA (show xs[k]? = some xs[k] from List.getElem?_eq_getElem _)
      have hsz : xs[k].size ≤ maxLen := HW.out _ (List.getElem_mem hltx)
      cases hok : nameB xs[k]
      · have HR := hide (show (cuesB xs && decide (n ≤ 12)) = false by simp only [cuesB, bad_ok (ge := strGe) (h := hltx) hok, Bool.false_and])
        clear hA
        go_wp2
        refine wp_region_x (by kernel_rfl) (by kernel_rfl) ?_
        repeat (go_big_quiet_step ((go_at_call 59; exact call_q (cb (c_name xs[k] _ hsz) hok))))
        refine wpQuiet_nil ?_
        rintro _ ⟨q, rfl⟩
        go_wp2
        go_ret
        exact ⟨by rw [HR.out]; rfl, IsX.xt ⟨p, rfl⟩ q⟩
      · cases k with
        | zero =>
          clear hA
          rw [show (((0 : Nat) : Int)) = 0 from rfl]
          simp only [Nat.add_zero] at c0
          have HG := hide (good_step HA.out (good_zero (ge := strGe) (ok := nameB) (h := hltx) hok))
          go_wp2
          refine wp_region_x (by kernel_rfl) (by kernel_rfl) ?_
          repeat (go_big_quiet_step ((go_at_call 59; exact call_q (cb (c_name xs[0] _ hsz) hok))))
          refine wpQuiet_nil ?_
          rintro _ ⟨q, rfl⟩
          go_wp2
          go_roundw
          case rel => exact ⟨1, by omega, by go_num, HG.out, IsX.xt ⟨p, rfl⟩ q⟩
          case measure => simp [intOf]; omega
        | succ j =>
          obtain ⟨b', off', e, hb', d0⟩ := str_rd hA (show xs[j]? = some xs[j] from List.getElem?_eq_getElem _)
          injection e with e
          injection e with e1 e2
          subst e1 e2
          clear hA
          rw [show (((j + 1 : Nat) : Int)) = (j : Int) + 1 from rfl]
          cases hge : Op.bytesLess xs[j].toList xs[j + 1].toList
          · have HR := hide (show (cuesB xs && decide (n ≤ 12)) = false by simp only [cuesB, bad_ge (ge := strGe) (ok := nameB) (i := j) (h := hltx) (by simp only [strGe, hge]; rfl), Bool.false_and])
            go_wp2
            refine wp_region_x (by kernel_rfl) (by kernel_rfl) ?_
            repeat (go_big_quiet_step ((go_at_call 59; exact call_q (cb (c_name xs[j + 1] _ hsz) hok))))
            refine wpQuiet_nil ?_
            rintro _ ⟨q, rfl⟩
            go_wp2
            go_ret
            exact ⟨by rw [HR.out]; rfl, IsX.xt ⟨p, rfl⟩ q⟩
          · have HG := hide (good_step HA.out (good_succ (ge := strGe) (ok := nameB) (h := hltx) hok (by simp only [strGe, hge]; rfl)))
            go_wp2
            refine wp_region_x (by kernel_rfl) (by kernel_rfl) ?_
            repeat (go_big_quiet_step ((go_at_call 59; exact call_q (cb (c_name xs[j + 1] _ hsz) hok))))
            refine wpQuiet_nil ?_
            rintro _ ⟨q, rfl⟩
            go_wp2
            go_roundw
            case rel => exact ⟨j + 1 + 1, by omega, by go_num, HG.out, IsX.xt ⟨p, rfl⟩ q⟩
            case measure => simp [intOf]; omega
    · obtain rfl : k = n := by omega
      have HR := hide (show cuesB xs = true from all_good (fun i hi => HA.out i (by rw [HN.out]; exact hi)))
      go_wp2
      go_ret
      refine ⟨?_, ⟨p, rfl⟩⟩
      show Ending.returned (Value.bool _) = _
      rw [HR.out, Bool.true_and]
      simp; omega

theorem all_step {ps : List PersonD} {ns : List ByteArray} {i : Nat} (h : ∀ j (hj : j < ns.length), j < i → hasP ps ns[j] = true) (hi : i < ns.length) (hq : hasP ps ns[i] = true) : ∀ j (hj : j < ns.length), j < i + 1 → hasP ps ns[j] = true := step_all hi h hq
theorem any_take {α : Type} {p : α → Bool} {xs : List α} {k : Nat} (h : k < xs.length) : (xs.take (k + 1)).any p = ((xs.take k).any p || p xs[k]) := by
  rw [List.take_succ_eq_append_getElem h, List.any_append]; simp

set_option maxRecDepth 100000 in
set_option maxHeartbeats 3200000 in
theorem c_l21Needed (A0 : Option Addr) (c0 : Nat) (ps : List PersonD) (A1 : Option Addr) (c1 : Nat) (ns : List ByteArray) (w : World) (hp : peopleB ps = true) (hn1 : ns.length ≤ 1099511627776) (hw1 : ∀ x ∈ ns, strWf x) (hA : RdPerson 0 w A0 ps) (hA1 : Rd strC 1 w A1 ns) :
    Calls Try.prog 32 #[.slice A0 ps.length c0, .slice A1 ns.length c1] w fun e w' => e = .returned (.bool (needB ps ns)) ∧ IsX w w' := by
  have HSN := hide (spec_need (ns := ns) hp)
  obtain ⟨hl, _⟩ := people_bd hp
  cases hc : (cuesB ns && decide (ns.length ≤ 12))
  · have HR := hide (show needB ps ns = false by rw [← HSN.out, hc]; rfl)
    go_enter Try.func32, Try.ntmps32
    go_wp2_with fail
    refine (cb (c_l21Names12 A1 c1 ns w hn1 hw1 hA1) hc).mono ?_
    rintro e w1 ⟨rfl, hx⟩
    go_wp2_with fail
    go_ret
    exact ⟨by rw [HR.out]; rfl, hx⟩
  rw [hc, Bool.true_and] at HSN
  have hl1 : ns.length ≤ 12 := by simp only [Bool.and_eq_true, decide_eq_true_eq] at hc; exact hc.2
  go_enter Try.func32, Try.ntmps32
  go_wp2_with fail
  refine (cb (c_l21Names12 A1 c1 ns w hn1 hw1 hA1) hc).mono ?_
  rintro e w1 ⟨rfl, hx⟩
  obtain ⟨n, hnn⟩ : ∃ n, n = ns.length := ⟨_, rfl⟩
  obtain ⟨m, hmm⟩ : ∃ m, m = ps.length := ⟨_, rfl⟩
  have HN := hide hnn
  have HM := hide hmm
  have HX := hide hx
  have HA := hide hA
  have HA1 := hide hA1
  rw [← hnn] at hl1 ⊢
  rw [← hmm] at hl ⊢
  clear hnn hmm hx hA hA1 hc hw1 hn1 hp
  go_wp2_with fail
  go_loopw [5] (fun iv wr => ∃ i : Nat, i ≤ n ∧ iv = .int .i64 i ∧ Hid (∀ j (hj : j < ns.length), j < i → hasP ps ns[j] = true) ∧ IsX w wr) (fun iv _ => n - (intOf iv).toNat)
  case atStart => exact ⟨0, Nat.zero_le _, rfl, hide (fun j h hj => absurd hj (by omega)), HX.out⟩
  case round =>
    clear HX
    obtain ⟨i, hi, rfl, HF, p, rfl⟩ := hrel
    by_cases hlt : i < n
    · have hix : i < ns.length := HN.out ▸ hlt
      obtain ⟨b1, off1, e1, hb1, ca⟩ := str_rd HA1.out (show ns[i]? = some ns[i] from List.getElem?_eq_getElem _)
      subst e1
      go_wp2_with fail
      go_loopw [6, 7] (fun fv kv wr => ∃ (k : Nat) (f : Bool), k ≤ m ∧ kv = .int .i64 k ∧ fv = .bool f ∧ Hid (f = (ps.take k).any (fun p => p.Name.toList == ns[i].toList)) ∧ IsX w wr) (fun _ kv _ => m - (intOf kv).toNat)
      case atStart => exact ⟨0, false, Nat.zero_le _, rfl, rfl, hide (by simp), ⟨p, rfl⟩⟩
      case round =>
        obtain ⟨k, f, hk, rfl, rfl, HB, p, rfl⟩ := hrel
        by_cases hkm : k < m
        · have hkx : k < ps.length := HM.out ▸ hkm
          have HT := hide (any_take (p := fun p : PersonD => p.Name.toList == ns[i].toList) hkx)
          obtain ⟨b, off, qA, qC, e0, hb, k0, k1, hR⟩ := RdPerson.rd HA.out (show ps[k]? = some ps[k] from List.getElem?_eq_getElem _)
          subst e0
          clear k1 hR
          cases f
          · cases hq : (ps[k].Name.toList == ns[i].toList)
            · go_wp2_with fail
              refine wp_region_x (by kernel_rfl) (by kernel_rfl) ?_
              repeat (go_big_quiet_step (fail))
              refine wpQuiet_nil ?_
              rintro _ ⟨pq, rfl⟩
              go_wp2_with fail
              go_roundw
              case rel => exact ⟨k + 1, false, by omega, by go_num, rfl, hide (by rw [HT.out, ← HB.out, hq]; rfl), IsX.xt ⟨p, rfl⟩ pq⟩
              case measure => simp [intOf]; omega
            · go_wp2_with fail
              refine wp_region_x (by kernel_rfl) (by kernel_rfl) ?_
              repeat (go_big_quiet_step (fail))
              refine wpQuiet_nil ?_
              rintro _ ⟨pq, rfl⟩
              go_wp2_with fail
              go_roundw
              case rel => exact ⟨k + 1, true, by omega, by go_num, rfl, hide (by rw [HT.out, ← HB.out, hq]; rfl), IsX.xt ⟨p, rfl⟩ pq⟩
              case measure => simp [intOf]; omega
          · go_wp2_with fail
            refine wp_region_x (by kernel_rfl) (by kernel_rfl) ?_
            repeat (go_big_quiet_step (fail))
            refine wpQuiet_nil ?_
            rintro _ ⟨pq, rfl⟩
            go_wp2_with fail
            go_roundw
            case rel => exact ⟨k + 1, true, by omega, by go_num, rfl, hide (by rw [HT.out, ← HB.out, Bool.true_or]), IsX.xt ⟨p, rfl⟩ pq⟩
            case measure => simp [intOf]; omega
        · obtain rfl : k = m := by omega
          have HB' := hide (show f = hasP ps ns[i] by rw [HB.out, hasP, List.take_of_length_le (by rw [← HM.out]; exact Nat.le_refl _)])
          cases f
          · have HR := hide (show needB ps ns = false by rw [← HSN.out]; exact all_not hix HB'.out.symm)
            go_wp2_with fail
            go_ret
            exact ⟨by rw [HR.out]; rfl, ⟨p, rfl⟩⟩
          · have HF' := hide (all_step HF.out hix HB'.out.symm)
            go_wp2_with fail
            go_roundw
            case rel => exact ⟨i + 1, by omega, by go_num, HF', ⟨p, rfl⟩⟩
            case measure => simp [intOf]; omega
    · obtain rfl : i = n := by omega
      have HR := hide (show needB ps ns = true by rw [← HSN.out]; exact all_of (fun j hj => HF.out j hj (by rw [HN.out]; exact hj)))
      go_wp2_with fail
      go_ret
      exact ⟨by rw [HR.out]; rfl, ⟨p, rfl⟩⟩

theorem c_needClo (x : PersonD) (qA : Option Addr) (m qC : Nat) (nm : ByteArray) (b : Nat) (w : World) (hb : b < w.heap.size) (l1 : w.cell? ⟨b, 0, none⟩ = some (.string nm)) :
    Calls Try.prog 67 #[.agg #[.string x.Name, .slice qA m qC], .pointer (some ⟨b, 0, none⟩)] w fun e w' => e = .returned (.bool (x.Name.toList == nm.toList)) ∧ IsX w w' := by
  go_enter Try.func67, Try.ntmps67
  go_wp2_with fail
  go_ret
  exact ⟨rfl, (IsX.refl w).alloc _⟩
set_option maxHeartbeats 800000 in
theorem c_IndexPerson (nm : ByteArray) (b1 : Nat) (A : Option Addr) (c : Nat) (xs : List PersonD) (w : World) (hn : xs.length ≤ 12) (hA : RdPerson 0 w A xs) (hb1 : b1 < w.heap.size) (l1 : w.cell? ⟨b1, 0, none⟩ = some (.string nm)) :
    Calls Try.prog 83 #[.slice A xs.length c, .func (.func 67) #[] #[.pointer (some ⟨b1, 0, none⟩)]] w fun e w' => e = .returned (.int .i64 (idxI (fun p : PersonD => p.Name.toList == nm.toList) xs)) ∧ IsX w w' := by
  obtain ⟨n, hnn⟩ : ∃ n, n = xs.length := ⟨_, rfl⟩
  have HN := hide hnn
  have HC := hide (show ∀ (x : PersonD) (qA : Option Addr) (m qC : Nat) W, IsX w W → Calls Try.prog 67 #[.agg #[.string x.Name, .slice qA m qC], .pointer (some ⟨b1, 0, none⟩)] W fun e w' => e = .returned (.bool (x.Name.toList == nm.toList)) ∧ IsX W w' from fun x qA m qC W hW => c_needClo x qA m qC nm b1 W (Nat.lt_of_lt_of_le hb1 hW.size) (keep hW hb1 l1))
  rw [← hnn] at hn ⊢
  clear hnn l1 hb1
  go_enter Try.func83, Try.ntmps83
  go_wp2
  go_loopw [8] (fun i wr => ∃ k : Nat, k ≤ n ∧ i = .int .i64 k ∧ (∀ i (h : i < xs.length), i < k → (fun p : PersonD => p.Name.toList == nm.toList) xs[i] = false) ∧ IsX w wr) (fun i _ => n - (intOf i).toNat)
  case atStart => exact ⟨0, Nat.zero_le _, rfl, fun i h hi => absurd hi (by omega), IsX.refl _⟩
  case round =>
    obtain ⟨k, hk, rfl, hall, p, rfl⟩ := hrel
    have HAL := hide hall
    clear hall
    by_cases hlt : k < n
    · have hltx : k < xs.length := HN.out ▸ hlt
      obtain ⟨b, off, qA, qC, e0, hb, k0, k1, hR⟩ := RdPerson.rd hA (show xs[k]? = some xs[k] from List.getElem?_eq_getElem _)
      subst e0
      clear hA hR
      cases hp : (xs[k].Name.toList == nm.toList)
      · have HP := hide hp
        go_wp2_with (go_at_call 67; refine (cb (HC.out xs[k] qA _ qC _ ⟨p, rfl⟩) hp).mono ?_; rintro e w1 ⟨rfl, q, rfl⟩)
        go_roundw
        case rel => exact ⟨k + 1, by omega, by go_num, step_all (p := fun p : PersonD => p.Name.toList == nm.toList) hltx HAL.out HP.out, IsX.xt ⟨p, rfl⟩ q⟩
        case measure => simp [intOf]; omega
      · have HR := hide (idxI_at (p := fun p : PersonD => p.Name.toList == nm.toList) hltx HAL.out hp)
        go_wp2_with (go_at_call 67; refine (cb (HC.out xs[k] qA _ qC _ ⟨p, rfl⟩) hp).mono ?_; rintro e w1 ⟨rfl, q, rfl⟩)
        go_ret
        exact ⟨by rw [HR.out]; rfl, IsX.xt ⟨p, rfl⟩ q⟩
    · have HR := hide (idxI_none (p := fun p : PersonD => p.Name.toList == nm.toList) (xs := xs) (fun i h => HAL.out i h (by have := HN.out; omega)))
      go_wp2
      go_ret
      exact ⟨by rw [HR.out]; rfl, ⟨p, rfl⟩⟩
theorem c_ContainsPerson (nm : ByteArray) (b1 : Nat) (A : Option Addr) (c : Nat) (xs : List PersonD) (w : World) (hn : xs.length ≤ 12) (hA : RdPerson 0 w A xs) (hb1 : b1 < w.heap.size) (l1 : w.cell? ⟨b1, 0, none⟩ = some (.string nm)) :
    Calls Try.prog 66 #[.slice A xs.length c, .func (.func 67) #[] #[.pointer (some ⟨b1, 0, none⟩)]] w fun e w' => e = .returned (.bool (hasP xs nm)) ∧ IsX w w' := by
  have HI := hide (idxI_ge (fun p : PersonD => p.Name.toList == nm.toList) xs)
  go_enter Try.func66, Try.ntmps66
  go_wp2_with fail
  refine (c_IndexPerson nm b1 A c xs w hn hA hb1 l1).mono ?_
  rintro e w1 ⟨rfl, hx⟩
  go_wp2_with fail
  go_ret
  exact ⟨by rw [hasP, ← HI.out.2.2]; rfl, hx⟩
set_option maxRecDepth 100000 in
set_option maxHeartbeats 6400000 in
theorem c_areNeeded (A0 : Option Addr) (c0 : Nat) (ps : List PersonD) (A1 : Option Addr) (c1 : Nat) (ns : List ByteArray) (w : World) (hp : peopleB ps = true) (hn1 : ns.length ≤ 1099511627776) (hA : RdPerson 0 w A0 ps) (hA1 : Rd strC 1 w A1 ns) :
    Calls Try.prog 40 #[.slice A0 ps.length c0, .slice A1 ns.length c1] w fun e w' => e = .returned (.bool (needB ps ns)) ∧ IsX w w' := by
  obtain ⟨hl, _⟩ := people_bd hp
  by_cases hl1 : ns.length ≤ 12
  case neg =>
    have HR := hide (show needB ps ns = false by rw [needB, decide_eq_false hl1, Bool.false_and])
    have hlt : 12 < ns.length := by omega
    go_enter Try.func40, Try.ntmps40
    go_wp2_with fail
    go_ret
    exact ⟨by rw [HR.out]; rfl, IsX.refl _⟩
  have HSN := hide (show needB ps ns = allGood (hasP ps) strGe ns by rw [needB, decide_eq_true hl1, Bool.true_and])
  obtain ⟨n, hnn⟩ : ∃ n, n = ns.length := ⟨_, rfl⟩
  have HN := hide hnn
  have HA := hide hA
  have HA1 := hide hA1
  rw [← hnn] at hl1 ⊢
  clear hnn hA hA1 hn1 hp
  go_enter Try.func40, Try.ntmps40
  go_wp2_with fail
  go_loopw [12] (fun iv wr => ∃ i : Nat, i ≤ n ∧ iv = .int .i64 i ∧ (∀ j, j < i → goodAt (hasP ps) strGe ns j = true) ∧ IsX w wr) (fun iv _ => n - (intOf iv).toNat)
  case atStart => exact ⟨0, Nat.zero_le _, rfl, fun i hi => absurd hi (by omega), IsX.refl _⟩
  case round =>
    obtain ⟨i, hi, rfl, hall, p, rfl⟩ := hrel
    have HG := hide hall
    clear hall
    by_cases hlt : i < n
    · have hix : i < ns.length := HN.out ▸ hlt
      obtain ⟨b1, off1, e1, hb1, ca⟩ := str_rd HA1.out (show ns[i]? = some ns[i] from List.getElem?_eq_getElem _)
      subst e1
      have HCT := hide (show ∀ q, Calls Try.prog 66 #[.slice A0 ps.length c0, .func (.func 67) #[] #[.pointer (some ⟨(xt w p).heap.size, 0, none⟩)]] (xt ((xt w p).alloc (.cells #[.string ns[i]] 9)) q) fun e w' => e = .returned (.bool (hasP ps ns[i])) ∧ IsX (xt ((xt w p).alloc (.cells #[.string ns[i]] 9)) q) w' from fun q => by
        have hB : Blk ((xt w p).alloc (.cells #[.string ns[i]] 9)) (xt w p).heap.size 9 #[.string ns[i]] := Blk.new _ _ _
        have hB' := hB.x (w' := xt ((xt w p).alloc (.cells #[.string ns[i]] 9)) q) ⟨q, rfl⟩
        have hc := hB'.cell 0
        simp at hc
        exact c_ContainsPerson ns[i] _ A0 c0 ps _ hl (HA.out.x (IsX.xt (IsX.alloc (w' := xt w p) ⟨p, rfl⟩ _) q)) hB'.lt hc)
      cases hq : hasP ps ns[i]
      · have HR := hide (show needB ps ns = false by rw [HSN.out]; exact bad_ok (i := i) (h := hix) hq)
        cases i with
        | zero =>
          rw [show (((0 : Nat) : Int)) = 0 from rfl]
          simp only [Nat.add_zero] at ca
          go_wp2_with fail
          refine wp_region_x (by kernel_rfl) (by kernel_rfl) ?_
          repeat (go_big_quiet_step ((go_at_call 66; exact call_x (cb (HCT.out _) hq))))
          refine wpQuiet_nil ?_
          rintro _ ⟨pq, rfl⟩
          go_wp2_with fail
          go_ret
          exact ⟨by rw [HR.out]; rfl, IsX.xt (IsX.alloc (w' := xt w p) ⟨p, rfl⟩ _) pq⟩
        | succ j =>
          obtain ⟨b2, off2, e2, hb2, cc⟩ := str_rd HA1.out (show ns[j]? = some ns[j] from List.getElem?_eq_getElem _)
          injection e2 with e2
          injection e2 with e2 e3
          subst e2 e3
          rw [show (((j + 1 : Nat) : Int)) = (j : Int) + 1 from rfl]
          have hjn : j + 1 < n := hlt
          cases hge : Op.bytesLess ns[j].toList ns[j + 1].toList
          · go_wp2_with fail
            refine wp_region_x (by kernel_rfl) (by kernel_rfl) ?_
            repeat (go_big_quiet_step (fail))
            refine wpQuiet_nil ?_
            rintro _ ⟨pq, rfl⟩
            go_wp2_with fail
            go_ret
            exact ⟨by rw [HR.out]; rfl, IsX.xt (IsX.alloc (w' := xt w p) ⟨p, rfl⟩ _) pq⟩
          · go_wp2_with fail
            refine wp_region_x (by kernel_rfl) (by kernel_rfl) ?_
            repeat (go_big_quiet_step ((go_at_call 66; exact call_x (cb (HCT.out _) hq))))
            refine wpQuiet_nil ?_
            rintro _ ⟨pq, rfl⟩
            go_wp2_with fail
            go_ret
            exact ⟨by rw [HR.out]; rfl, IsX.xt (IsX.alloc (w' := xt w p) ⟨p, rfl⟩ _) pq⟩
      · cases i with
        | zero =>
          rw [show (((0 : Nat) : Int)) = 0 from rfl]
          simp only [Nat.add_zero] at ca
          have HGG := hide (good_step HG.out (good_zero (ge := strGe) (ok := hasP ps) (h := hix) hq))
          go_wp2_with fail
          refine wp_region_x (by kernel_rfl) (by kernel_rfl) ?_
          repeat (go_big_quiet_step ((go_at_call 66; exact call_x (cb (HCT.out _) hq))))
          refine wpQuiet_nil ?_
          rintro _ ⟨pq, rfl⟩
          go_wp2_with fail
          go_roundw
          case rel => exact ⟨1, by omega, by go_num, HGG.out, IsX.xt (IsX.alloc (w' := xt w p) ⟨p, rfl⟩ _) pq⟩
          case measure => simp [intOf]; omega
        | succ j =>
          obtain ⟨b2, off2, e2, hb2, cc⟩ := str_rd HA1.out (show ns[j]? = some ns[j] from List.getElem?_eq_getElem _)
          injection e2 with e2
          injection e2 with e2 e3
          subst e2 e3
          rw [show (((j + 1 : Nat) : Int)) = (j : Int) + 1 from rfl]
          have hjn : j + 1 < n := hlt
          cases hge : Op.bytesLess ns[j].toList ns[j + 1].toList
          · have HR := hide (show needB ps ns = false by rw [HSN.out]; exact bad_ge (i := j) (h := hix) (by simp [strGe, hge]))
            go_wp2_with fail
            refine wp_region_x (by kernel_rfl) (by kernel_rfl) ?_
            repeat (go_big_quiet_step (fail))
            refine wpQuiet_nil ?_
            rintro _ ⟨pq, rfl⟩
            go_wp2_with fail
            go_ret
            exact ⟨by rw [HR.out]; rfl, IsX.xt (IsX.alloc (w' := xt w p) ⟨p, rfl⟩ _) pq⟩
          · have HGG := hide (good_step HG.out (good_succ (ge := strGe) (ok := hasP ps) (h := hix) hq (by simp [strGe, hge])))
            go_wp2_with fail
            refine wp_region_x (by kernel_rfl) (by kernel_rfl) ?_
            repeat (go_big_quiet_step ((go_at_call 66; exact call_x (cb (HCT.out _) hq))))
            refine wpQuiet_nil ?_
            rintro _ ⟨pq, rfl⟩
            go_wp2_with fail
            go_roundw
            case rel => exact ⟨j + 1 + 1, by omega, by go_num, HGG.out, IsX.xt (IsX.alloc (w' := xt w p) ⟨p, rfl⟩ _) pq⟩
            case measure => simp [intOf]; omega
    · obtain rfl : i = n := by omega
      have HR := hide (show needB ps ns = true by rw [HSN.out]; exact all_good (fun j hj => HG.out j (by rw [HN.out]; exact hj)))
      go_wp2_with fail
      go_ret
      exact ⟨by rw [HR.out]; rfl, ⟨p, rfl⟩⟩

end Go.Proofs.Ytfkhhioadklomaa
