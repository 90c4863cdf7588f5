/- People: what the two validity tests compute. Conditions: strings no longer than 2^63 - 1 bytes, lists no longer than 2^40. -/
import Derived.Test.YtfkhhioadklomaaNestPerson
import Derived.Test.YtfkhhioadklomaaNums
namespace Go.Proofs.Ytfkhhioadklomaa
set_option linter.unusedVariables false
open Go.RowKit

def PersonD.okB (x : PersonD) : Bool := nameB x.Name && decide (x.Days.length ≤ 32) && risesB x.Days 0 99999
def PersonD.geB (x y : PersonD) : Bool := !(Op.bytesLess x.Name.toList y.Name.toList)
def peopleB (xs : List PersonD) : Bool := decide (xs.length ≤ 12) && allGood PersonD.okB PersonD.geB xs

set_option maxHeartbeats 3200000 in
theorem c_l21People (A : Option Addr) (c : Nat) (xs : List PersonD) (w : World) (hn : xs.length ≤ 1099511627776) (hw : ∀ x ∈ xs, x.wf) (hs : ∀ x ∈ xs, x.small 1099511627776) (hA : RdPerson 0 w A xs) :
    Calls Try.prog 31 #[.slice A xs.length c] w fun e w' => e = .returned (.bool (peopleB xs)) ∧ IsX w w' := by
  obtain ⟨n, hnn⟩ : ∃ n, n = xs.length := ⟨_, rfl⟩
  have HN := hide hnn
  rw [← hnn] at hn ⊢
  clear hnn
  have HW := hide hw
  have HS := hide hs
  clear hw hs
  go_enter Try.func31, Try.ntmps31
  go_wp2
  go_loopw [3] (fun i wr => ∃ k : Nat, k ≤ n ∧ i = .int .i64 k ∧ (∀ i, i < k → goodAt PersonD.okB PersonD.geB xs i = true) ∧ IsX w wr) (fun i _ => n - (intOf i).toNat)
  case atStart => exact ⟨0, Nat.zero_le _, rfl, fun i hi => absurd hi (by omega), IsX.refl _⟩
  case round =>
    obtain ⟨k, hk, rfl, hall, p, rfl⟩ := hrel
    have HA := hide hall
    clear hall
    by_cases hlt : k < n
    · have hltx : k < xs.length := HN.out ▸ hlt
      obtain ⟨b, off, qA, qC, rfl, hb, c0, c1, hR⟩ := RdPerson.rd hA (show xs[k]? = some xs[k] from List.getElem?_eq_getElem _)
      have hsz : xs[k].Name.size ≤ maxLen := (HW.out _ (List.getElem_mem hltx)).1
      have hds : xs[k].Days.length ≤ 1099511627776 := by have := HS.out _ (List.getElem_mem hltx); simp only [PersonD.small] at this; omega
      cases hok1 : nameB xs[k].Name
      · have HR := hide (show peopleB xs = false by simp [peopleB, bad_ok (ok := PersonD.okB) (ge := PersonD.geB) (i := k) (h := hltx) (by simp [PersonD.okB, hok1])])
        clear hA
        go_wp2
        refine wp_region_x (by kernel_rfl) (by kernel_rfl) ?_
        repeat (go_big_quiet_step (((go_at_call 59; exact call_q (cb (c_name xs[k].Name _ hsz) hok1)))))
        refine wpQuiet_nil ?_
        rintro _ ⟨q, rfl⟩
        go_wp2
        go_ret
        exact ⟨by rw [HR.out]; rfl, IsX.xt (IsX.alloc ⟨p, rfl⟩ _) q⟩
      by_cases hok2 : 32 < xs[k].Days.length
      · have HR := hide (show peopleB xs = false by simp [peopleB, bad_ok (ok := PersonD.okB) (ge := PersonD.geB) (i := k) (h := hltx) (by simp [PersonD.okB]; intro _ h; omega)])
        have hd2 : decide ((32 : Int) < ((xs[k].Days.length : Nat) : Int)) = true := decide_eq_true (by omega)
        clear hA
        go_wp2
        refine wp_region_x (by kernel_rfl) (by kernel_rfl) ?_
        repeat (go_big_quiet_step (((go_at_call 59; exact call_q (cb (c_name xs[k].Name _ hsz) hok1)))))
        refine wpQuiet_nil ?_
        rintro _ ⟨q, rfl⟩
        go_wp2
        go_ret
        exact ⟨by rw [HR.out]; rfl, IsX.xt (IsX.alloc ⟨p, rfl⟩ _) q⟩
      have hd2 : decide ((32 : Int) < ((xs[k].Days.length : Nat) : Int)) = false := decide_eq_false (by omega)
      cases hok3 : risesB xs[k].Days 0 99999
      · have HR := hide (show peopleB xs = false by simp [peopleB, bad_ok (ok := PersonD.okB) (ge := PersonD.geB) (i := k) (h := hltx) (by simp [PersonD.okB, hok3])])
        clear hA
        go_wp2
        refine wp_region_x (by kernel_rfl) (by kernel_rfl) ?_
        repeat (go_big_quiet_step ((first | (go_at_call 59; exact call_q (cb (c_name xs[k].Name _ hsz) hok1)) | (go_at_call 60; exact call_x (cb (c_rises qA qC xs[k].Days 0 99999 _ hds (hR.x (IsX.xt (IsX.alloc ⟨p, rfl⟩ _) _))) hok3)))))
        refine wpQuiet_nil ?_
        rintro _ ⟨q, rfl⟩
        go_wp2
        go_ret
        exact ⟨by rw [HR.out]; rfl, IsX.xt (IsX.alloc ⟨p, rfl⟩ _) q⟩
      have HO := hide (show xs[k].okB = true by simp only [PersonD.okB, hok1, hok3, Bool.true_and, Bool.and_true]; exact decide_eq_true (by omega))
      cases k with
      | zero =>
        clear hA
        rw [show (((0 : Nat) : Int)) = 0 from rfl]
        simp only [Nat.zero_mul, Nat.add_zero] at c0 c1
        go_wp2
        refine wp_region_x (by kernel_rfl) (by kernel_rfl) ?_
        repeat (go_big_quiet_step ((first | (go_at_call 59; exact call_q (cb (c_name xs[0].Name _ hsz) hok1)) | (go_at_call 60; exact call_x (cb (c_rises qA qC xs[0].Days 0 99999 _ hds (hR.x (IsX.xt (IsX.alloc ⟨p, rfl⟩ _) _))) hok3)))))
        refine wpQuiet_nil ?_
        rintro _ ⟨q, rfl⟩
        go_wp2
        go_roundw
        case rel => exact ⟨1, by omega, by go_num, good_step HA.out (good_zero HO.out), IsX.xt (IsX.alloc ⟨p, rfl⟩ _) q⟩
        case measure => simp [intOf]; omega
      | succ j =>
        obtain ⟨b', off', qA', qC', e, hb', d0, d1, hR'⟩ := RdPerson.rd hA (show xs[j]? = some xs[j] from List.getElem?_eq_getElem _)
        injection e with e
        injection e with e1 e2
        subst e1 e2
        clear hA hR'
        rw [show (((j + 1 : Nat) : Int)) = (j : Int) + 1 from rfl]
        cases hge : Op.bytesLess xs[j].Name.toList xs[j + 1].Name.toList
        · have HR := hide (show peopleB xs = false by simp [peopleB, bad_ge (ge := PersonD.geB) (ok := PersonD.okB) (i := j) (h := hltx) (by simp [PersonD.geB, hge])])
          go_wp2
          refine wp_region_x (by kernel_rfl) (by kernel_rfl) ?_
          repeat (go_big_quiet_step ((first | (go_at_call 59; exact call_q (cb (c_name xs[j + 1].Name _ hsz) hok1)) | (go_at_call 60; exact call_x (cb (c_rises qA qC xs[j + 1].Days 0 99999 _ hds (hR.x (IsX.xt (IsX.alloc ⟨p, rfl⟩ _) _))) hok3)))))
          refine wpQuiet_nil ?_
          rintro _ ⟨q, rfl⟩
          go_wp2
          go_ret
          exact ⟨by rw [HR.out]; rfl, IsX.xt (IsX.alloc ⟨p, rfl⟩ _) q⟩
        · have HG := hide hge
          go_wp2
          refine wp_region_x (by kernel_rfl) (by kernel_rfl) ?_
          repeat (go_big_quiet_step ((first | (go_at_call 59; exact call_q (cb (c_name xs[j + 1].Name _ hsz) hok1)) | (go_at_call 60; exact call_x (cb (c_rises qA qC xs[j + 1].Days 0 99999 _ hds (hR.x (IsX.xt (IsX.alloc ⟨p, rfl⟩ _) _))) hok3)))))
          refine wpQuiet_nil ?_
          rintro _ ⟨q, rfl⟩
          go_wp2
          go_roundw
          case rel => exact ⟨j + 1 + 1, by omega, by go_num, good_step HA.out (good_succ HO.out (by simp [PersonD.geB, HG.out])), IsX.xt (IsX.alloc ⟨p, rfl⟩ _) q⟩
          case measure => simp [intOf]; omega
    · obtain rfl : k = n := by omega
      have HG := hide (all_good (ok := PersonD.okB) (ge := PersonD.geB) (xs := xs) (fun i hi => HA.out i (by rw [HN.out]; exact hi)))
      go_wp2
      go_ret
      refine ⟨?_, ⟨p, rfl⟩⟩
      show Ending.returned (Value.bool _) = _
      rw [peopleB, HG.out, Bool.and_true, ← HN.out]
      simp; omega

set_option maxHeartbeats 3200000 in
theorem c_ValidPeople (A : Option Addr) (c : Nat) (xs : List PersonD) (w : World) (hn : xs.length ≤ 1099511627776) (hw : ∀ x ∈ xs, x.wf) (hs : ∀ x ∈ xs, x.small 1099511627776) (hA : RdPerson 0 w A xs) :
    Calls Try.prog 39 #[.slice A xs.length c] w fun e w' => e = .returned (.bool (peopleB xs)) ∧ IsX w w' := by
  by_cases hlen : 12 < xs.length
  · have HR := hide (show peopleB xs = false by rw [peopleB, decide_eq_false (by omega)]; simp)
    generalize xs.length = n at hn hlen ⊢
    go_enter Try.func39, Try.ntmps39
    go_wp2
    go_ret
    exact ⟨by rw [HR.out]; rfl, IsX.refl _⟩
  obtain ⟨n, hnn⟩ : ∃ n, n = xs.length := ⟨_, rfl⟩
  have HN := hide hnn
  rw [← hnn] at hn hlen ⊢
  clear hnn
  have HW := hide hw
  have HS := hide hs
  clear hw hs
  go_enter Try.func39, Try.ntmps39
  go_wp2
  go_loopw [12] (fun i wr => ∃ k : Nat, k ≤ n ∧ i = .int .i64 k ∧ (∀ i, i < k → goodAt PersonD.okB PersonD.geB xs i = true) ∧ IsX w wr) (fun i _ => n - (intOf i).toNat)
  case atStart => exact ⟨0, Nat.zero_le _, rfl, fun i hi => absurd hi (by omega), IsX.refl _⟩
  case round =>
    obtain ⟨k, hk, rfl, hall, p, rfl⟩ := hrel
    have HA := hide hall
    clear hall
    by_cases hlt : k < n
    · have hltx : k < xs.length := HN.out ▸ hlt
      obtain ⟨b, off, qA, qC, rfl, hb, c0, c1, hR⟩ := RdPerson.rd hA (show xs[k]? = some xs[k] from List.getElem?_eq_getElem _)
      have hsz : xs[k].Name.size ≤ maxLen := (HW.out _ (List.getElem_mem hltx)).1
      have hds : xs[k].Days.length ≤ 1099511627776 := by have := HS.out _ (List.getElem_mem hltx); simp only [PersonD.small] at this; omega
      cases hok1 : nameB xs[k].Name
      · have HR := hide (show peopleB xs = false by simp [peopleB, bad_ok (ok := PersonD.okB) (ge := PersonD.geB) (i := k) (h := hltx) (by simp [PersonD.okB, hok1])])
        clear hA
        go_wp2
        refine wp_region_x (by kernel_rfl) (by kernel_rfl) ?_
        repeat (go_big_quiet_step ((go_at_call 65; exact call_q (cb (c_IsName xs[k].Name _ hsz) hok1))))
        refine wpQuiet_nil ?_
        rintro _ ⟨q, rfl⟩
        go_wp2
        go_ret
        exact ⟨by rw [HR.out]; rfl, IsX.xt (IsX.alloc ⟨p, rfl⟩ _) q⟩
      by_cases hok2 : 32 < xs[k].Days.length
      · have HR := hide (show peopleB xs = false by simp [peopleB, bad_ok (ok := PersonD.okB) (ge := PersonD.geB) (i := k) (h := hltx) (by simp [PersonD.okB]; intro _ h; omega)])
        have hd2 : decide ((32 : Int) < ((xs[k].Days.length : Nat) : Int)) = true := decide_eq_true (by omega)
        clear hA
        go_wp2
        refine wp_region_x (by kernel_rfl) (by kernel_rfl) ?_
        repeat (go_big_quiet_step ((go_at_call 65; exact call_q (cb (c_IsName xs[k].Name _ hsz) hok1))))
        refine wpQuiet_nil ?_
        rintro _ ⟨q, rfl⟩
        go_wp2
        go_ret
        exact ⟨by rw [HR.out]; rfl, IsX.xt (IsX.alloc ⟨p, rfl⟩ _) q⟩
      have hd2 : decide ((32 : Int) < ((xs[k].Days.length : Nat) : Int)) = false := decide_eq_false (by omega)
      cases k with
      | zero =>
        clear hA
        rw [show (((0 : Nat) : Int)) = 0 from rfl]
        simp only [Nat.zero_mul, Nat.add_zero] at c0 c1
        go_wp2
        refine wp_region_x (by kernel_rfl) (by kernel_rfl) ?_
        repeat (go_big_quiet_step ((go_at_call 65; exact call_q (cb (c_IsName xs[0].Name _ hsz) hok1))))
        refine wpQuiet_nil ?_
        rintro wo ⟨q, hq⟩
        have hX1 : IsX ((xt w p).alloc (.cells #[.string xs[0].Name, .slice qA xs[0].Days.length qC] 51)) wo := ⟨q, hq⟩
        clear hq
        have hX : IsX w wo := IsX.trans (IsX.alloc ⟨p, rfl⟩ _) hX1
        have l0 : wo.cell? ⟨(xt w p).heap.size, 0, none⟩ = some (.string xs[0].Name) := keep hX1 (by simp) (by simp [go_sem])
        have l1 : wo.cell? ⟨(xt w p).heap.size, 1, none⟩ = some (.slice qA xs[0].Days.length qC) := keep hX1 (by simp) (by simp [go_sem])
        have hlb : (xt w p).heap.size < wo.heap.size := Nat.lt_of_lt_of_le (by simp) hX1.size
        have hRo := hR.x hX
        have hdn : xs[0].Days.length ≤ 32 := by omega
        clear hX1 hR
        go_wp2
        clear c0 c1
        go_loopw [45] (fun i wr => ∃ m : Nat, m ≤ xs[0].Days.length ∧ i = .int .i64 m ∧ (∀ i, i < m → goodAt (fun n => inB n 0 99999) geI xs[0].Days i = true) ∧ IsX wo wr) (fun i _ => xs[0].Days.length - (intOf i).toNat)
        case atStart => exact ⟨0, Nat.zero_le _, rfl, fun i hi => absurd hi (by omega), IsX.refl _⟩
        case round =>
          obtain ⟨m, hm, rfl, hall', p', rfl⟩ := hrel
          have HB := hide hall'
          clear hall'
          by_cases hml : m < xs[0].Days.length
          · obtain ⟨b2, off2, rfl, hb2, e0⟩ := int_rd hRo (show xs[0].Days[m]? = some xs[0].Days[m] from List.getElem?_eq_getElem _)
            cases hin : inB xs[0].Days[m] 0 99999
            · have HR := hide (show peopleB xs = false by simp [peopleB, bad_ok (ok := PersonD.okB) (ge := PersonD.geB) (i := 0) (h := hltx) (by simp only [PersonD.okB, show risesB xs[0].Days 0 99999 = false from bad_ok (i := m) (h := hml) hin, Bool.and_false])])
              clear hRo
              go_wp2_with (go_at_call 41; refine (c_within _ _ _ _).mono ?_; rintro e w' ⟨rfl, rfl⟩)
              go_ret
              exact ⟨by rw [HR.out]; rfl, IsX.trans hX ⟨p', rfl⟩⟩
            · cases m with
              | zero =>
                have HG := hide (good_step HB.out (good_zero (ge := geI) (ok := fun n => inB n 0 99999) (h := hml) hin))
                clear hRo
                rw [show (((0 : Nat) : Int)) = 0 from rfl]
                simp only [Nat.add_zero] at e0
                go_wp2_with (go_at_call 41; refine (c_within _ _ _ _).mono ?_; rintro e w' ⟨rfl, rfl⟩)
                go_roundw
                case rel => exact ⟨1, by omega, by go_num, HG.out, ⟨p', rfl⟩⟩
                case measure => simp [intOf]; omega
              | succ i' =>
                obtain ⟨b3, off3, e, hb3, f0⟩ := int_rd hRo (show xs[0].Days[i']? = some xs[0].Days[i'] from List.getElem?_eq_getElem _)
                injection e with e
                injection e with e1 e2
                subst e1 e2
                clear hRo
                rw [show (((i' + 1 : Nat) : Int)) = (i' : Int) + 1 from rfl]
                by_cases hdg : xs[0].Days[i' + 1] ≤ xs[0].Days[i']
                · have HR := hide (show peopleB xs = false by simp [peopleB, bad_ok (ok := PersonD.okB) (ge := PersonD.geB) (i := 0) (h := hltx) (by simp only [PersonD.okB, show risesB xs[0].Days 0 99999 = false from bad_ge (i := i') (h := hml) (by simp [geI, hdg]), Bool.and_false])])
                  go_wp2_with (go_at_call 41; refine (c_within _ _ _ _).mono ?_; rintro e w' ⟨rfl, rfl⟩)
                  go_ret
                  exact ⟨by rw [HR.out]; rfl, IsX.trans hX ⟨p', rfl⟩⟩
                · have HG := hide (good_step HB.out (good_succ (ge := geI) (ok := fun n => inB n 0 99999) (h := hml) hin (by simp only [geI]; exact decide_eq_false hdg)))
                  go_wp2_with (go_at_call 41; refine (c_within _ _ _ _).mono ?_; rintro e w' ⟨rfl, rfl⟩)
                  go_roundw
                  case rel => exact ⟨i' + 1 + 1, by omega, by go_num, HG.out, ⟨p', rfl⟩⟩
                  case measure => simp [intOf]; omega
          · have HO := hide (show xs[0].okB = true by
              have h3 : risesB xs[0].Days 0 99999 = true := all_good (fun i hi => HB.out i (by omega))
              simp only [PersonD.okB, hok1, h3, Bool.true_and, Bool.and_true]; exact decide_eq_true (by omega))
            go_wp2
            go_roundw
            case rel => exact ⟨1, by omega, by go_num, good_step HA.out (good_zero HO.out), IsX.trans hX ⟨p', rfl⟩⟩
            case measure => simp [intOf]; omega
      | succ j =>
        obtain ⟨b', off', qA', qC', e, hb', d0, d1, hR'⟩ := RdPerson.rd hA (show xs[j]? = some xs[j] from List.getElem?_eq_getElem _)
        injection e with e
        injection e with e1 e2
        subst e1 e2
        clear hA hR'
        rw [show (((j + 1 : Nat) : Int)) = (j : Int) + 1 from rfl]
        cases hge : Op.bytesLess xs[j].Name.toList xs[j + 1].Name.toList
        · have HR := hide (show peopleB xs = false by simp [peopleB, bad_ge (ge := PersonD.geB) (ok := PersonD.okB) (i := j) (h := hltx) (by simp [PersonD.geB, hge])])
          go_wp2
          refine wp_region_x (by kernel_rfl) (by kernel_rfl) ?_
          repeat (go_big_quiet_step ((go_at_call 65; exact call_q (cb (c_IsName xs[j + 1].Name _ hsz) hok1))))
          refine wpQuiet_nil ?_
          rintro _ ⟨q, rfl⟩
          go_wp2
          go_ret
          exact ⟨by rw [HR.out]; rfl, IsX.xt (IsX.alloc ⟨p, rfl⟩ _) q⟩
        · have HG := hide hge
          go_wp2
          refine wp_region_x (by kernel_rfl) (by kernel_rfl) ?_
          repeat (go_big_quiet_step ((go_at_call 65; exact call_q (cb (c_IsName xs[j + 1].Name _ hsz) hok1))))
          refine wpQuiet_nil ?_
          have HGE := hide hge
          clear hge
          rintro wo ⟨q, hq⟩
          have hX1 : IsX ((xt w p).alloc (.cells #[.string xs[j + 1].Name, .slice qA xs[j + 1].Days.length qC] 51)) wo := ⟨q, hq⟩
          clear hq
          have hX : IsX w wo := IsX.trans (IsX.alloc ⟨p, rfl⟩ _) hX1
          have l0 : wo.cell? ⟨(xt w p).heap.size, 0, none⟩ = some (.string xs[j + 1].Name) := keep hX1 (by simp) (by simp [go_sem])
          have l1 : wo.cell? ⟨(xt w p).heap.size, 1, none⟩ = some (.slice qA xs[j + 1].Days.length qC) := keep hX1 (by simp) (by simp [go_sem])
          have hlb : (xt w p).heap.size < wo.heap.size := Nat.lt_of_lt_of_le (by simp) hX1.size
          have hRo := hR.x hX
          have hdn : xs[j + 1].Days.length ≤ 32 := by omega
          clear hX1 hR
          go_wp2
          clear c0 c1 d0 d1
          go_loopw [45] (fun i wr => ∃ m : Nat, m ≤ xs[j + 1].Days.length ∧ i = .int .i64 m ∧ (∀ i, i < m → goodAt (fun n => inB n 0 99999) geI xs[j + 1].Days i = true) ∧ IsX wo wr) (fun i _ => xs[j + 1].Days.length - (intOf i).toNat)
          case atStart => exact ⟨0, Nat.zero_le _, rfl, fun i hi => absurd hi (by omega), IsX.refl _⟩
          case round =>
            obtain ⟨m, hm, rfl, hall', p', rfl⟩ := hrel
            have HB := hide hall'
            clear hall'
            by_cases hml : m < xs[j + 1].Days.length
            · obtain ⟨b2, off2, rfl, hb2, e0⟩ := int_rd hRo (show xs[j + 1].Days[m]? = some xs[j + 1].Days[m] from List.getElem?_eq_getElem _)
              cases hin : inB xs[j + 1].Days[m] 0 99999
              · have HR := hide (show peopleB xs = false by simp [peopleB, bad_ok (ok := PersonD.okB) (ge := PersonD.geB) (i := j + 1) (h := hltx) (by simp only [PersonD.okB, show risesB xs[j + 1].Days 0 99999 = false from bad_ok (i := m) (h := hml) hin, Bool.and_false])])
                clear hRo
                go_wp2_with (go_at_call 41; refine (c_within _ _ _ _).mono ?_; rintro e w' ⟨rfl, rfl⟩)
                go_ret
                exact ⟨by rw [HR.out]; rfl, IsX.trans hX ⟨p', rfl⟩⟩
              · cases m with
                | zero =>
                  have HG := hide (good_step HB.out (good_zero (ge := geI) (ok := fun n => inB n 0 99999) (h := hml) hin))
                  clear hRo
                  rw [show (((0 : Nat) : Int)) = 0 from rfl]
                  simp only [Nat.add_zero] at e0
                  go_wp2_with (go_at_call 41; refine (c_within _ _ _ _).mono ?_; rintro e w' ⟨rfl, rfl⟩)
                  go_roundw
                  case rel => exact ⟨1, by omega, by go_num, HG.out, ⟨p', rfl⟩⟩
                  case measure => simp [intOf]; omega
                | succ i' =>
                  obtain ⟨b3, off3, e, hb3, f0⟩ := int_rd hRo (show xs[j + 1].Days[i']? = some xs[j + 1].Days[i'] from List.getElem?_eq_getElem _)
                  injection e with e
                  injection e with e1 e2
                  subst e1 e2
                  clear hRo
                  rw [show (((i' + 1 : Nat) : Int)) = (i' : Int) + 1 from rfl]
                  by_cases hdg : xs[j + 1].Days[i' + 1] ≤ xs[j + 1].Days[i']
                  · have HR := hide (show peopleB xs = false by simp [peopleB, bad_ok (ok := PersonD.okB) (ge := PersonD.geB) (i := j + 1) (h := hltx) (by simp only [PersonD.okB, show risesB xs[j + 1].Days 0 99999 = false from bad_ge (i := i') (h := hml) (by simp [geI, hdg]), Bool.and_false])])
                    go_wp2_with (go_at_call 41; refine (c_within _ _ _ _).mono ?_; rintro e w' ⟨rfl, rfl⟩)
                    go_ret
                    exact ⟨by rw [HR.out]; rfl, IsX.trans hX ⟨p', rfl⟩⟩
                  · have HG := hide (good_step HB.out (good_succ (ge := geI) (ok := fun n => inB n 0 99999) (h := hml) hin (by simp only [geI]; exact decide_eq_false hdg)))
                    go_wp2_with (go_at_call 41; refine (c_within _ _ _ _).mono ?_; rintro e w' ⟨rfl, rfl⟩)
                    go_roundw
                    case rel => exact ⟨i' + 1 + 1, by omega, by go_num, HG.out, ⟨p', rfl⟩⟩
                    case measure => simp [intOf]; omega
            · have HO := hide (show xs[j + 1].okB = true by
                have h3 : risesB xs[j + 1].Days 0 99999 = true := all_good (fun i hi => HB.out i (by omega))
                simp only [PersonD.okB, hok1, h3, Bool.true_and, Bool.and_true]; exact decide_eq_true (by omega))
              go_wp2
              go_roundw
              case rel => exact ⟨j + 1 + 1, by omega, by go_num, good_step HA.out (good_succ HO.out (by simp [PersonD.geB, HGE.out])), IsX.trans hX ⟨p', rfl⟩⟩
              case measure => simp [intOf]; omega
    · obtain rfl : k = n := by omega
      have HG := hide (all_good (ok := PersonD.okB) (ge := PersonD.geB) (xs := xs) (fun i hi => HA.out i (by rw [HN.out]; exact hi)))
      have HR := hide (show peopleB xs = true by rw [peopleB, HG.out, decide_eq_true (by rw [← HN.out]; omega)]; rfl)
      go_wp2
      go_ret
      exact ⟨by rw [HR.out]; rfl, ⟨p, rfl⟩⟩

end Go.Proofs.Ytfkhhioadklomaa
