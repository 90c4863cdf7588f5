/- The last rehearsal of a cue: what the reference and the program compute. Conditions: lists no longer than 2^40. -/
import Derived.Test.YtegehdhdlljikaaRunsFns
namespace Go.Proofs.Ytegehdhdlljikaa
set_option linter.unusedVariables false
open Go.RowKit

def hasStr (c : ByteArray) (xs : List ByteArray) : Bool := xs.any fun x => x.toList == c.toList
def dayStep (c : ByteArray) (xs : List RunD) (i : Nat) (s : Int) : Int := match xs[i]? with | some x => if hasStr c x.Cues = true then x.Day else s | none => s
def dayTo (c : ByteArray) (xs : List RunD) (k : Nat) : Int := upTo (dayStep c xs) (-1) k
theorem day_yes {c : ByteArray} {xs : List RunD} {k : Nat} (h : k < xs.length) (hh : hasStr c xs[k].Cues = true) : dayTo c xs (k + 1) = xs[k].Day := by
  unfold dayTo; rw [upTo_succ]; simp only [dayStep, List.getElem?_eq_getElem h, hh, if_true]
theorem day_no {c : ByteArray} {xs : List RunD} {k : Nat} (h : k < xs.length) (hh : hasStr c xs[k].Cues = false) : dayTo c xs (k + 1) = dayTo c xs k := by
  unfold dayTo; rw [upTo_succ]; simp only [dayStep, List.getElem?_eq_getElem h, hh, Bool.false_eq_true, if_false]
def lastOf (xs : List RunD) (c : ByteArray) : Int := if runsB xs = true then (if dayTo c xs xs.length < 0 then 0 else dayTo c xs xs.length) else 0
def lastCode (xs : List RunD) (c : ByteArray) : Int := if runsB xs = true then (if dayTo c xs xs.length < 0 then 3 else 0) else 1

set_option maxHeartbeats 800000 in
theorem c_IndexStr (A : Option Addr) (c : Nat) (xs : List ByteArray) (cue : ByteArray) (w : World) (hn : xs.length ≤ 1099511627776) (hA : Rd strC 1 w A xs) :
    Calls Try.prog 57 #[.slice A xs.length c, .string cue] w fun e w' => e = .returned (.int .i64 (idxI (fun x : ByteArray => x.toList == cue.toList) xs)) ∧ IsX w w' := by
  obtain ⟨n, hnn⟩ : ∃ n, n = xs.length := ⟨_, rfl⟩
  have HN := hide hnn
  rw [← hnn] at hn ⊢
  clear hnn
  go_enter Try.func57, Try.ntmps57
  go_wp2
  go_loopw [8] (fun i wr => ∃ k : Nat, k ≤ n ∧ i = .int .i64 k ∧ (∀ i (h : i < xs.length), i < k → (fun x : ByteArray => x.toList == cue.toList) xs[i] = false) ∧ IsX w wr) (fun i _ => n - (intOf i).toNat)
  case atStart => exact ⟨0, Nat.zero_le _, rfl, fun i h hi => absurd hi (by omega), IsX.refl _⟩
  case round =>
    obtain ⟨k, hk, rfl, hall, p, rfl⟩ := hrel
    have HA := hide hall
    clear hall
    by_cases hlt : k < n
    · have hltx : k < xs.length := HN.out ▸ hlt
      obtain ⟨b, off, rfl, hb, c0⟩ := str_rd hA (show xs[k]? = some xs[k] from List.getElem?_eq_getElem _)
      clear hA
      cases hp : (xs[k].toList == cue.toList)
      · have HP := hide hp
        have hp2 : (cue.toList == xs[k].toList) = false := by simp only [beq_eq_false_iff_ne] at hp ⊢; exact fun e => hp e.symm
        go_wp2
        go_roundw
        case rel => exact ⟨k + 1, by omega, by go_num, step_all (p := fun x : ByteArray => x.toList == cue.toList) hltx HA.out HP.out, ⟨p, rfl⟩⟩
        case measure => simp [intOf]; omega
      · have HR := hide (idxI_at (p := (fun x : ByteArray => x.toList == cue.toList)) hltx HA.out hp)
        have hp2 : (cue.toList == xs[k].toList) = true := by simp only [beq_iff_eq] at hp ⊢; exact hp.symm
        go_wp2
        go_ret
        exact ⟨by rw [HR.out]; rfl, ⟨p, rfl⟩⟩
    · have HR := hide (idxI_none (p := (fun x : ByteArray => x.toList == cue.toList)) (xs := xs) (fun i h => HA.out i h (by have := HN.out; omega)))
      go_wp2
      go_ret
      exact ⟨by rw [HR.out]; rfl, ⟨p, rfl⟩⟩

theorem c_ContainsStr (A : Option Addr) (c : Nat) (xs : List ByteArray) (cue : ByteArray) (w : World) (hn : xs.length ≤ 1099511627776) (hA : Rd strC 1 w A xs) :
    Calls Try.prog 35 #[.slice A xs.length c, .string cue] w fun e w' => e = .returned (.bool (hasStr cue xs)) ∧ IsX w w' := by
  have HI := hide (idxI_ge (fun x : ByteArray => x.toList == cue.toList) xs)
  go_enter Try.func35, Try.ntmps35
  go_wp2_with fail
  refine (c_IndexStr A c xs cue w hn hA).mono ?_
  rintro e w1 ⟨rfl, hx⟩
  go_wp2_with fail
  go_ret
  exact ⟨by rw [hasStr, ← HI.out.2.2]; rfl, hx⟩

set_option maxRecDepth 100000 in
set_option maxHeartbeats 800000 in
theorem c_lastRehearsed (A : Option Addr) (c : Nat) (xs : List RunD) (cue : ByteArray) (w : World) (hn : xs.length ≤ 1099511627776) (hs : ∀ x ∈ xs, x.small 1099511627776) (hA : RdRun 0 w A xs) :
    Calls Try.prog 23 #[.slice A xs.length c, .string cue] w fun e w' => e = .returned (.int .i64 (dayTo cue xs xs.length)) ∧ IsX w w' := by
  obtain ⟨n, hnn⟩ : ∃ n, n = xs.length := ⟨_, rfl⟩
  have HN := hide hnn
  rw [← hnn] at hn ⊢
  clear hnn
  have HS := hide hs
  clear hs
  go_enter Try.func23, Try.ntmps23
  go_wp2
  go_loopw [5, 10] (fun s i wr => ∃ k : Nat, k ≤ n ∧ i = .int .i64 k ∧ s = .int .i64 (dayTo cue xs k) ∧ IsX w wr) (fun _ i _ => n - (intOf i).toNat)
  case atStart => exact ⟨0, Nat.zero_le _, rfl, rfl, IsX.refl _⟩
  case round =>
    obtain ⟨k, hk, rfl, rfl, p, rfl⟩ := hrel
    by_cases hlt : k < n
    · have hltx : k < xs.length := HN.out ▸ hlt
      obtain ⟨b, off, qA, rA, qC, rC, rfl, hb, c0, c1, c2, hR0, hR1⟩ := RdRun.rd hA (show xs[k]? = some xs[k] from List.getElem?_eq_getElem _)
      have hcl : xs[k].Cues.length ≤ 1099511627776 := by have := HS.out _ (List.getElem_mem hltx); simp only [RunD.small] at this; omega
      clear hA hR1
      cases hh : hasStr cue xs[k].Cues
      · have HD := hide (day_no hltx hh)
        go_wp2_with (go_at_call 35; refine (cb (c_ContainsStr qA qC xs[k].Cues cue _ hcl (hR0.x (IsX.alloc ⟨p, rfl⟩ _))) hh).mono ?_; rintro e wo ⟨rfl, hX1⟩; have l0 : wo.cell? ⟨(xt w p).heap.size, 0, none⟩ = some (.int .i64 xs[k].Day) := keep hX1 (by simp) (by simp [go_sem]); have hlb : (xt w p).heap.size < wo.heap.size := Nat.lt_of_lt_of_le (by simp) hX1.size; have HX := hide (IsX.trans (IsX.alloc ⟨p, rfl⟩ _) hX1); clear hX1 hR0)
        go_roundw
        case rel => exact ⟨k + 1, by omega, by go_num, by rw [HD.out], HX.out⟩
        case measure => simp [intOf]; omega
      · have HD := hide (day_yes hltx hh)
        go_wp2_with (go_at_call 35; refine (cb (c_ContainsStr qA qC xs[k].Cues cue _ hcl (hR0.x (IsX.alloc ⟨p, rfl⟩ _))) hh).mono ?_; rintro e wo ⟨rfl, hX1⟩; have l0 : wo.cell? ⟨(xt w p).heap.size, 0, none⟩ = some (.int .i64 xs[k].Day) := keep hX1 (by simp) (by simp [go_sem]); have hlb : (xt w p).heap.size < wo.heap.size := Nat.lt_of_lt_of_le (by simp) hX1.size; have HX := hide (IsX.trans (IsX.alloc ⟨p, rfl⟩ _) hX1); clear hX1 hR0)
        go_roundw
        case rel => exact ⟨k + 1, by omega, by go_num, by rw [HD.out], HX.out⟩
        case measure => simp [intOf]; omega
    · obtain rfl : k = n := by omega
      go_wp2
      go_ret
      exact ⟨rfl, ⟨p, rfl⟩⟩

set_option maxHeartbeats 800000 in
theorem i_LastRehearsed (A0 : Option Addr) (c0 : Nat) (xs0 : List RunD) (s1 : ByteArray) (w : World) (hn0 : xs0.length ≤ 1099511627776) (hw0 : ∀ x ∈ xs0, x.wf) (hs0 : ∀ x ∈ xs0, x.small 1099511627776) (hA0 : RdRun 0 w A0 xs0) (hs1 : s1.size ≤ 1048576) :
    Calls Try.prog 9 #[.slice A0 xs0.length c0, .string s1] w fun e w' => e = .returned (.tuple #[.int .i64 (lastOf xs0 s1), .int .i64 (lastCode xs0 s1)]) ∧ IsX w w' := by
  cases hv : runsB xs0
  · have HR := hide (show lastOf xs0 s1 = 0 by simp [lastOf, hv])
    have HC := hide (show lastCode xs0 s1 = 1 by simp [lastCode, hv])
    go_enter Try.func9, Try.ntmps9
    go_wp2_with fail
    refine (cb (c_ValidRuns A0 c0 xs0 w hn0 hw0 hs0 hA0) hv).mono ?_
    rintro e w1 ⟨rfl, hx⟩
    go_wp2_with fail
    go_ret2
    exact ⟨by rw [HR.out, HC.out]; rfl, hx⟩
  by_cases hd : dayTo s1 xs0 xs0.length < 0
  · have HR := hide (show lastOf xs0 s1 = 0 by simp [lastOf, hv, hd])
    have HC := hide (show lastCode xs0 s1 = 3 by simp [lastCode, hv, hd])
    go_enter Try.func9, Try.ntmps9
    go_wp2_with fail
    refine (cb (c_ValidRuns A0 c0 xs0 w hn0 hw0 hs0 hA0) hv).mono ?_
    rintro e w1 ⟨rfl, hx⟩
    go_wp2_with fail
    refine (c_lastRehearsed A0 c0 xs0 s1 w1 hn0 hs0 (hA0.x hx)).mono ?_
    rintro e w2 ⟨rfl, hx2⟩
    go_wp2_with fail
    go_ret2
    exact ⟨by rw [HR.out, HC.out]; rfl, hx.trans hx2⟩
  have HR := hide (show lastOf xs0 s1 = dayTo s1 xs0 xs0.length by simp [lastOf, hv, hd])
  have HC := hide (show lastCode xs0 s1 = 0 by simp [lastCode, hv, hd])
  go_enter Try.func9, Try.ntmps9
  go_wp2_with fail
  refine (cb (c_ValidRuns A0 c0 xs0 w hn0 hw0 hs0 hA0) hv).mono ?_
  rintro e w1 ⟨rfl, hx⟩
  go_wp2_with fail
  refine (c_lastRehearsed A0 c0 xs0 s1 w1 hn0 hs0 (hA0.x hx)).mono ?_
  rintro e w2 ⟨rfl, hx2⟩
  go_wp2_with fail
  go_ret2
  exact ⟨by rw [HR.out, HC.out]; rfl, hx.trans hx2⟩

end Go.Proofs.Ytegehdhdlljikaa
