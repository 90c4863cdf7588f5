/- What the law's own helpers answer: a choice, whether a text or a number is in a list, how many of some people are free. Conditions: told with each. -/
import Derived.Test.YtfkhhioadklomaaDrawPeople
import Derived.Test.YtfkhhioadklomaaLastRunFns
namespace Go.Proofs.Ytfkhhioadklomaa
set_option linter.unusedVariables false
open Go.RowKit

theorem c_r8Long (A : Option Addr) (n c : Nat) (A' : Option Addr) (n' c' : Nat) (w : World) : Calls Try.prog 24 #[.slice A n c, .slice A' n' c'] w fun e w' => e = .returned (.bool (decide ((n : Int) > 1048576) || decide ((n' : Int) > 1048576))) ∧ w = w' := by
  by_cases h : 1048576 < n
  · have hd : decide ((n : Int) > 1048576) = true := decide_eq_true (by omega)
    go_enter Try.func24, Try.ntmps24
    go_wp2
    go_ret
    exact ⟨by rw [hd]; rfl, rfl⟩
  · have hd : decide ((n : Int) > 1048576) = false := decide_eq_false (by omega)
    go_enter Try.func24, Try.ntmps24
    go_wp2
    go_ret
    refine ⟨?_, rfl⟩
    rw [hd, Bool.false_or]
    simp
theorem c_r8At (A : Option Addr) (c : Nat) (bs : List Int) (k n : Int) (w : World) (hk : 0 ≤ k) (hn0 : 1 < n) (hn1 : n ≤ 1000000) (hl : bs.length ≤ 1048576) (hb : ∀ x ∈ bs, byteWf x) (hA : Rd byteC 1 w A bs) :
    Calls Try.prog 26 #[.slice A bs.length c, .int .i64 k, .int .i64 n] w fun e w' => ∃ v : Int, e = .returned (.int .i64 v) ∧ 0 ≤ v ∧ v < n ∧ w = w' := by
  obtain ⟨m, hm⟩ : ∃ m, m = bs.length := ⟨_, rfl⟩
  have HM := hide hm
  rw [← hm] at hl ⊢
  clear hm
  have g0 : decide (n ≤ 1) = false := decide_eq_false (by omega)
  by_cases hlt : k < (m : Int)
  · have hltx : k.toNat < bs.length := by have := HM.out; omega
    obtain ⟨b, off, rfl, hbl, c0⟩ := byte_rd hA (show bs[k.toNat]? = some bs[k.toNat] from List.getElem?_eq_getElem _)
    obtain ⟨v0, v1⟩ := hb _ (List.getElem_mem hltx)
    generalize bs[k.toNat] = v at c0 v0 v1
    have hm0 : 0 ≤ v % n := Int.emod_nonneg _ (by omega)
    have hm1 : v % n < n := Int.emod_lt_of_pos _ (by omega)
    have hnn : ¬ n = 0 := by omega
    have g1 : decide ((m : Int) ≤ k) = false := decide_eq_false (by omega)
    clear hb hA
    go_enter Try.func26, Try.ntmps26
    go_wp2_with fail
    go_ret
    exact ⟨v % n, rfl, hm0, hm1, rfl⟩
  · have g1 : decide ((m : Int) ≤ k) = true := decide_eq_true (by omega)
    clear hb hA
    go_enter Try.func26, Try.ntmps26
    go_wp2_with fail
    go_ret
    exact ⟨0, rfl, Int.le_refl _, by omega, rfl⟩

set_option maxHeartbeats 800000 in
theorem c_r8HasText (A : Option Addr) (c : Nat) (xs : List ByteArray) (cue : ByteArray) (w : World) (hn : xs.length ≤ 1099511627776) (hA : Rd strC 1 w A xs) :
    Calls Try.prog 56 #[.slice A xs.length c, .string cue] w fun e w' => e = .returned (.bool (hasStr cue xs)) ∧ IsX w w' := by
  obtain ⟨n, hnn⟩ : ∃ n, n = xs.length := ⟨_, rfl⟩
  have HN := hide hnn
  rw [← hnn] at hn ⊢
  clear hnn
  go_enter Try.func56, Try.ntmps56
  go_wp2
  go_loopw [5] (fun i wr => ∃ k : Nat, k ≤ n ∧ i = .int .i64 k ∧ (∀ i (h : i < xs.length), i < k → (fun x : ByteArray => x.toList == cue.toList) xs[i] = false) ∧ IsX w wr) (fun i _ => n - (intOf i).toNat)
  case atStart => exact ⟨0, Nat.zero_le _, rfl, fun i h hi => absurd hi (by omega), IsX.refl _⟩
  case round =>
    obtain ⟨k, hk, rfl, hall, p, rfl⟩ := hrel
    have HA := hide hall
    clear hall
    by_cases hlt : k < n
    · have hltx : k < xs.length := HN.out ▸ hlt
      obtain ⟨b, off, rfl, hb, c0⟩ := str_rd hA (show xs[k]? = some xs[k] from List.getElem?_eq_getElem _)
      clear hA
      cases hp : (xs[k].toList == cue.toList)
      · have HP := hide hp
        have hp2 : (cue.toList == xs[k].toList) = false := by simp only [beq_eq_false_iff_ne] at hp ⊢; exact fun e => hp e.symm
        go_wp2
        go_roundw
        case rel => exact ⟨k + 1, by omega, by go_num, step_all (p := fun x : ByteArray => x.toList == cue.toList) hltx HA.out HP.out, ⟨p, rfl⟩⟩
        case measure => simp [intOf]; omega
      · have HR := hide (show hasStr cue xs = true from List.any_eq_true.2 ⟨xs[k], List.getElem_mem hltx, hp⟩)
        have hp2 : (cue.toList == xs[k].toList) = true := by simp only [beq_iff_eq] at hp ⊢; exact hp.symm
        go_wp2
        go_ret
        exact ⟨by rw [HR.out]; rfl, ⟨p, rfl⟩⟩
    · have HR := hide (show hasStr cue xs = false from List.any_eq_false.2 (fun x hx => by obtain ⟨i, hi, rfl⟩ := List.getElem_of_mem hx; have := HA.out i hi (by have := HN.out; omega); simpa using this))
      go_wp2
      go_ret
      exact ⟨by rw [HR.out]; rfl, ⟨p, rfl⟩⟩
set_option maxHeartbeats 800000 in
theorem c_r8Has (A : Option Addr) (c : Nat) (xs : List Int) (k : Int) (w : World) (hn : xs.length ≤ 1099511627776) (hA : Rd intC 1 w A xs) :
    Calls Try.prog 57 #[.slice A xs.length c, .int .i64 k] w fun e w' => e = .returned (.bool (hasB xs k)) ∧ IsX w w' := by
  obtain ⟨n, hnn⟩ : ∃ n, n = xs.length := ⟨_, rfl⟩
  have HN := hide hnn
  rw [← hnn] at hn ⊢
  clear hnn
  go_enter Try.func57, Try.ntmps57
  go_wp2
  go_loopw [5] (fun i wr => ∃ q : Nat, q ≤ n ∧ i = .int .i64 q ∧ Hid (∀ i (h : i < xs.length), i < q → xs[i] ≠ k) ∧ IsX w wr) (fun i _ => n - (intOf i).toNat)
  case atStart => exact ⟨0, Nat.zero_le _, rfl, hide (fun i h hi => absurd hi (by omega)), IsX.refl _⟩
  case round =>
    obtain ⟨q, hq, rfl, HF, p, rfl⟩ := hrel
    by_cases hlt : q < n
    · have hltx : q < xs.length := HN.out ▸ hlt
      obtain ⟨b, off, rfl, hb, c0⟩ := int_rd hA (show xs[q]? = some xs[q] from List.getElem?_eq_getElem _)
      clear hA
      by_cases he : xs[q] = k
      · have HR := hide (has_yes hltx he)
        have hbe : (xs[q] == k) = true := by simpa using he
        clear he
        go_wp2
        go_ret
        exact ⟨by rw [HR.out]; rfl, ⟨p, rfl⟩⟩
      · have hbe : (xs[q] == k) = false := by simpa using he
        have HF' := hide (show ∀ i (h : i < xs.length), i < q + 1 → xs[i] ≠ k from fun i h hi => by
          by_cases e : i = q
          · subst e; exact he
          · exact HF.out i h (by omega))
        clear he
        go_wp2
        go_roundw
        case rel => exact ⟨q + 1, by omega, by go_num, HF', ⟨p, rfl⟩⟩
        case measure => simp [intOf]; omega
    · obtain rfl : q = n := by omega
      have HR := hide (has_no (k := k) (fun i h => HF.out i h (by have := HN.out; omega)))
      clear hA
      go_wp2
      go_ret
      exact ⟨by rw [HR.out]; rfl, ⟨p, rfl⟩⟩

set_option maxHeartbeats 1600000 in
theorem c_r8Count (A0 : Option Addr) (c0 : Nat) (ps : List PersonD) (A1 : Option Addr) (c1 : Nat) (ns : List ByteArray) (day : Int) (w : World) (hp : peopleB ps = true) (hl1 : ns.length ≤ 12) (hA : RdPerson 0 w A0 ps) (hA1 : Rd strC 1 w A1 ns) :
    Calls Try.prog 29 #[.slice A0 ps.length c0, .slice A1 ns.length c1, .int .i64 day] w fun e w' => e = .returned (.int .i64 ((onTo ps ns day ps.length : Nat) : Int)) ∧ IsX w w' := by
  obtain ⟨hl, hd⟩ := people_bd hp
  have HD := hide hd
  obtain ⟨n, hnn⟩ : ∃ n, n = ps.length := ⟨_, rfl⟩
  have HN := hide hnn
  have HA := hide hA
  have HA1 := hide hA1
  rw [← hnn] at hl ⊢
  clear hnn hA hA1 hd
  go_enter Try.func29, Try.ntmps29
  go_wp2_with fail
  go_loopw [7, 8] (fun cv iv wr => ∃ i : Nat, i ≤ n ∧ iv = .int .i64 i ∧ cv = .int .i64 ((onTo ps ns day i : Nat) : Int) ∧ IsX w wr) (fun _ iv _ => n - (intOf iv).toNat)
  case atStart => exact ⟨0, Nat.zero_le _, rfl, rfl, IsX.refl _⟩
  case round =>
    obtain ⟨i, hi, rfl, rfl, p, rfl⟩ := hrel
    have hcl := on_le ps ns day i
    by_cases hlt : i < n
    · have hix : i < ps.length := HN.out ▸ hlt
      have HCS := hide (on_succ (ns := ns) (d := day) hix)
      obtain ⟨b, off, qA, qC, e0, hb, k0, k1, hR⟩ := RdPerson.rd HA.out (show ps[i]? = some ps[i] from List.getElem?_eq_getElem _)
      obtain ⟨z1, z2⟩ := HD.out _ (List.getElem_mem hix)
      have HR := hide hR
      subst e0
      obtain ⟨q, hq⟩ : ∃ q, q = onTo ps ns day i := ⟨_, rfl⟩
      rw [← hq] at hcl HCS ⊢
      clear hR z2 hq
      cases hs : hasStr ps[i].Name ns
      · rw [hs, Bool.false_and] at HCS
        go_wp2_with fail
        refine (cb (c_r8HasText A1 c1 ns ps[i].Name _ (by omega) (HA1.out.x ⟨p, rfl⟩)) hs).mono ?_
        rintro e w5 ⟨rfl, hx5⟩
        have HX := hide (IsX.trans (w' := xt w p) ⟨p, rfl⟩ hx5)
        clear hx5
        go_wp2_with fail
        go_roundw
        case rel => exact ⟨i + 1, by omega, by go_num, by rw [HCS.out]; simp, HX.out⟩
        case measure => simp [intOf]; omega
      · rw [hs, Bool.true_and] at HCS
        go_wp2_with fail
        refine (cb (c_r8HasText A1 c1 ns ps[i].Name _ (by omega) (HA1.out.x ⟨p, rfl⟩)) hs).mono ?_
        rintro e w5 ⟨rfl, hx5⟩
        have HX := hide (IsX.trans (w' := xt w p) ⟨p, rfl⟩ hx5)
        have k1' := keep HX.out hb k1
        have hb' := Nat.lt_of_lt_of_le hb HX.out.size
        clear hx5 k0 k1
        cases hf : hasB ps[i].Days day
        · rw [hf] at HCS
          go_wp2_with fail
          refine (cb (c_r8Has qA qC ps[i].Days day w5 (by omega) (HR.out.x HX.out)) hf).mono ?_
          rintro e w6 ⟨rfl, hx6⟩
          have HX6 := hide (HX.out.trans hx6)
          clear hx6
          go_wp2_with fail
          go_roundw
          case rel => exact ⟨i + 1, by omega, by go_num, by rw [HCS.out]; simp, HX6.out⟩
          case measure => simp [intOf]; omega
        · rw [hf] at HCS
          go_wp2_with fail
          refine (cb (c_r8Has qA qC ps[i].Days day w5 (by omega) (HR.out.x HX.out)) hf).mono ?_
          rintro e w6 ⟨rfl, hx6⟩
          have HX6 := hide (HX.out.trans hx6)
          clear hx6
          go_wp2_with fail
          go_roundw
          case rel => exact ⟨i + 1, by omega, by go_num, by rw [HCS.out]; simp, HX6.out⟩
          case measure => simp [intOf]; omega
    · obtain rfl : i = n := by omega
      have HZ := hide (show onTo ps ns day ps.length = onTo ps ns day i by rw [← HN.out])
      go_wp2_with fail
      go_ret
      exact ⟨by try rfl, ⟨p, rfl⟩⟩
end Go.Proofs.Ytfkhhioadklomaa
